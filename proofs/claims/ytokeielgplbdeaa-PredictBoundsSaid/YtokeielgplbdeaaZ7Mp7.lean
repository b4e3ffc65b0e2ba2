/-
  The functions compute what their models say. Made by program (mg3.py) out of the translation.
-/
import Derived.Test.YtokeielgplbdeaaZ7Md
import Derived.Test.YtokeielgplbdeaaZ7Tt
set_option linter.all false
set_option maxRecDepth 100000
namespace Go.Proofs.Ytokeielgplbdeaa
open Go.K Go.M
abbrev pe3{A0 A1 A2 A3 A4:Type}(x:A0×A1×A2×A3×A4):A3:=x.2.2.2.1
abbrev pe4{A0 A1 A2 A3 A4 A5:Type}(x:A0×A1×A2×A3×A4×A5):A4:=x.2.2.2.2.1
abbrev pe5{A0 A1 A2 A3 A4 A5 A6:Type}(x:A0×A1×A2×A3×A4×A5×A6):A5:=x.2.2.2.2.2.1
abbrev pe6{A0 A1 A2 A3 A4 A5 A6 A7:Type}(x:A0×A1×A2×A3×A4×A5×A6×A7):A6:=x.2.2.2.2.2.2.1
abbrev pe7{A0 A1 A2 A3 A4 A5 A6 A7 A8:Type}(x:A0×A1×A2×A3×A4×A5×A6×A7×A8):A7:=x.2.2.2.2.2.2.2.1
abbrev pe8{A0 A1 A2 A3 A4 A5 A6 A7 A8 A9:Type}(x:A0×A1×A2×A3×A4×A5×A6×A7×A8×A9):A8:=x.2.2.2.2.2.2.2.2.1
abbrev pe9{A0 A1 A2 A3 A4 A5 A6 A7 A8 A9 A10:Type}(x:A0×A1×A2×A3×A4×A5×A6×A7×A8×A9×A10):A9:=x.2.2.2.2.2.2.2.2.2.1
abbrev pe10{A0 A1 A2 A3 A4 A5 A6 A7 A8 A9 A10 A11:Type}(x:A0×A1×A2×A3×A4×A5×A6×A7×A8×A9×A10×A11):A10:=x.2.2.2.2.2.2.2.2.2.2.1
abbrev pe11{A0 A1 A2 A3 A4 A5 A6 A7 A8 A9 A10 A11 A12:Type}(x:A0×A1×A2×A3×A4×A5×A6×A7×A8×A9×A10×A11×A12):A11:=x.2.2.2.2.2.2.2.2.2.2.2.1
abbrev pe12{A0 A1 A2 A3 A4 A5 A6 A7 A8 A9 A10 A11 A12 A13:Type}(x:A0×A1×A2×A3×A4×A5×A6×A7×A8×A9×A10×A11×A12×A13):A12:=x.2.2.2.2.2.2.2.2.2.2.2.2.1
abbrev pe13{A0 A1 A2 A3 A4 A5 A6 A7 A8 A9 A10 A11 A12 A13 A14:Type}(x:A0×A1×A2×A3×A4×A5×A6×A7×A8×A9×A10×A11×A12×A13×A14):A13:=x.2.2.2.2.2.2.2.2.2.2.2.2.2.1
abbrev pe14{A0 A1 A2 A3 A4 A5 A6 A7 A8 A9 A10 A11 A12 A13 A14 A15:Type}(x:A0×A1×A2×A3×A4×A5×A6×A7×A8×A9×A10×A11×A12×A13×A14×A15):A14:=x.2.2.2.2.2.2.2.2.2.2.2.2.2.2.1
abbrev pf4{A0 A1 A2 A3 A4:Type}(x:A0×A1×A2×A3×A4):A4:=x.2.2.2.2
abbrev pf5{A0 A1 A2 A3 A4 A5:Type}(x:A0×A1×A2×A3×A4×A5):A5:=x.2.2.2.2.2
abbrev pf6{A0 A1 A2 A3 A4 A5 A6:Type}(x:A0×A1×A2×A3×A4×A5×A6):A6:=x.2.2.2.2.2.2
abbrev pf7{A0 A1 A2 A3 A4 A5 A6 A7:Type}(x:A0×A1×A2×A3×A4×A5×A6×A7):A7:=x.2.2.2.2.2.2.2
abbrev pf8{A0 A1 A2 A3 A4 A5 A6 A7 A8:Type}(x:A0×A1×A2×A3×A4×A5×A6×A7×A8):A8:=x.2.2.2.2.2.2.2.2
abbrev pf10{A0 A1 A2 A3 A4 A5 A6 A7 A8 A9 A10:Type}(x:A0×A1×A2×A3×A4×A5×A6×A7×A8×A9×A10):A10:=x.2.2.2.2.2.2.2.2.2.2
abbrev pf11{A0 A1 A2 A3 A4 A5 A6 A7 A8 A9 A10 A11:Type}(x:A0×A1×A2×A3×A4×A5×A6×A7×A8×A9×A10×A11):A11:=x.2.2.2.2.2.2.2.2.2.2.2
abbrev pf12{A0 A1 A2 A3 A4 A5 A6 A7 A8 A9 A10 A11 A12:Type}(x:A0×A1×A2×A3×A4×A5×A6×A7×A8×A9×A10×A11×A12):A12:=x.2.2.2.2.2.2.2.2.2.2.2.2
abbrev pf13{A0 A1 A2 A3 A4 A5 A6 A7 A8 A9 A10 A11 A12 A13:Type}(x:A0×A1×A2×A3×A4×A5×A6×A7×A8×A9×A10×A11×A12×A13):A13:=x.2.2.2.2.2.2.2.2.2.2.2.2.2
abbrev pf15{A0 A1 A2 A3 A4 A5 A6 A7 A8 A9 A10 A11 A12 A13 A14 A15:Type}(x:A0×A1×A2×A3×A4×A5×A6×A7×A8×A9×A10×A11×A12×A13×A14×A15):A15:=x.2.2.2.2.2.2.2.2.2.2.2.2.2.2.2
noncomputable section
def qiw:Shp:=⟨[qjx],[]⟩
abbrev qzh:Ctx (Bool):=⟨17,tt,false,false,[],kd [],la [],cp 17 tt [] [.tmp 2] qiw (fun x=>x.1.1)⟩
theorem qzg:CtxM Try.prog qzh:=lm fits bi m0
abbrev qd1:Mdl:=(a9 (.cons (.d false (.int .u8)) .nil) [] [] 1 qiw (B:=Bool) (fun b=>((b,()),(()))) (fun a=>we a.1.1))
theorem qgk:MdlOK Try.prog 96 qd1:=ll Try.func96 rfl qzg .z s0
def qpn:Shp:=⟨[qjx],[]⟩
abbrev q4m:Ctx (Bool):=⟨25,tt,false,false,[],kd [(96,qd1)],la [],cp 25 tt [] [.tmp 2] qpn (fun x=>x.1.1)⟩
theorem q4l:CtxM Try.prog q4m:=lm fits bi (mC qgk m0)
abbrev qte:Mdl:=(a9 (.cons (.d false (.int .u8)) .nil) [] [] 1 qpn (B:=Bool) (fun b=>((b,()),(()))) (fun a=>qhz a.1.1))
theorem qzi:MdlOK Try.prog 97 qte:=ll Try.func97 rfl q4l .z s0
def qiv:Shp:=⟨[qjx],[]⟩
abbrev ql1:Ctx (Bool):=⟨29,tt,false,false,[],kd [(96,qd1),(97,qte)],la [ay _ 29 [] qtc (C:=(ByteArray×Int)) (S:=Int) (fun x=>((x.1.1,x.1.2.1),x.1.2.2.1)) qtb (CE:=Unit) (E:=Unit) (fun c e=>((()),(()))) (fun c=>()) (fun{R} c a nx dn rt=>oy c.1 c.2 a nx dn rt)],cp 29 tt [] [.tmp 2] qiv (fun x=>x.1.1)⟩
theorem qlz:CtxM Try.prog ql1:=lm fits bi (mC qgk (mC qzi m0))
theorem qvj:az Try.prog ql1 0 (lc 0 Try.f77 75):=lp rfl qlz .z s0 (fun c a=>((c.1,c.2,a,()),(()))) (fun y=>((),()))
abbrev ql0:Mdl:=(a9 (.cons (.d false .str) .nil) [] [] 1 qiv (B:=Bool) (fun b=>((b,()),(()))) (fun a=>z0 a.1.1))
theorem qtd:MdlOK Try.prog 77 ql0:=ll Try.func77 rfl qlz (.two .z (.two .z (.two (.two .z (.s 0)) .z))) (sC qvj s0)
def qgq:Shp:=⟨[qjx],[]⟩
abbrev qi4:Ctx (Bool):=⟨36,tt,false,false,[],kd [],la [ay _ 36 [] qqr (C:=(qL1×qL1×Int×Int×(List ag)×Int×Int)) (S:=Int) (fun x=>((x.1.1,x.1.2.2.1,(pe3 x.1),x.2.1.1,x.2.1.2.1,x.2.1.2.2.1,(pe3 x.2.1)),(pe4 x.1))) qqq (CE:=Unit) (E:=Unit) (fun c e=>((()),(()))) (fun c=>()) (fun{R} c a nx dn rt=>kh c.1 c.2.1 c.2.2.1 (pe3 c) (pe4 c) (pe5 c) (pf6 c) a nx dn rt)],cp 36 tt [] [.tmp 4] qgq (fun x=>x.1.1)⟩
theorem qi2:CtxM Try.prog qi4:=lm fits bi m0
theorem qtv:az Try.prog qi4 0 (lc 0 Try.f78 37):=lp rfl qi2 .z s0 (fun c a=>((c.1,(),c.2.1,c.2.2.1,a,()),(((pe3 c),(pe4 c),(pe5 c),(pf6 c),()),()))) (fun y=>((),()))
abbrev qi3:Mdl:=(a9 (.cons (.d false cz.ty) (.cons (.d false qT1) .nil)) [] [] 1 qgq (B:=Bool) (fun b=>((b,()),(()))) (fun a=>jo a.1.1 a.1.2.1))
theorem qqs:MdlOK Try.prog 78 qi3:=ll Try.func78 rfl qi2 (.two .z (.two (.two .z (.s 0)) .z)) (sC qtv s0)
def qi1:Shp:=⟨[qjx],[]⟩
abbrev qmc:Ctx (Bool):=⟨62,tt,false,false,[],kd [(77,ql0),(78,qi3)],la [ay _ 62 [] qtp (C:=((List ag)×Int×Int×(List ag)×Int×Int)) (S:=Int) (fun x=>((x.1.2.1,x.1.2.2.1,x.2.1.1,x.2.1.2.1,x.2.1.2.2.1,(pe3 x.2.1)),(pe3 x.1))) qto (CE:=(Int×(List ag)×Int×Int)) (E:=Unit) (fun c e=>(((),()),((c.1,c.2.1,c.2.2.1,c.2.2.2,()),()))) (fun c=>(c.2.2.1,(pe3 c),(pe4 c),(pf5 c))) (fun{R} c a nx dn rt=>su c.1 c.2.1 c.2.2.1 (pe3 c) (pe4 c) (pf5 c) a nx dn rt)],cp 62 tt [] [.tmp 2] qi1 (fun x=>x.1.1)⟩
theorem qmb:CtxM Try.prog qmc:=lm fits bi (mC qtd (mC qqs m0))
theorem qvl:az Try.prog qmc 0 (lc 0 Try.f50 75):=lp rfl qmb .z s0 (fun c a=>(((),c.1,c.2.1,a,()),((c.2.2.1,(pe3 c),(pe4 c),(pf5 c),()),()))) (fun y=>((y.2.1.1,y.2.1.2.1,y.2.1.2.2.1,(pe3 y.2.1)),()))
abbrev pp:Mdl:=(a9 (.cons (.d false cz.ty) .nil) [] [] 1 qi1 (B:=Bool) (fun b=>((b,()),(()))) (fun a=>km a.1.1))
theorem oz:MdlOK Try.prog 50 pp:=ll Try.func50 rfl qmb (.two .z (.two .z (.two (.two .z (.s 0)) .z))) (sC qvl s0)
def qad:Shp:=⟨[qjx],[]⟩
abbrev qof:Ctx (Bool):=⟨35,tt,false,false,[],kd [],la [],cp 35 tt [] [.tmp 2] qad (fun x=>x.1.1)⟩
theorem qoe:CtxM Try.prog qof:=lm fits bi m0
abbrev qcx:Mdl:=(a9 (.cons (.d false af.ty) .nil) [] [] 1 qad (B:=Bool) (fun b=>((b,()),(()))) (fun a=>qp a.1.1))
theorem qkn:MdlOK Try.prog 87 qcx:=ll Try.func87 rfl qoe .z s0
def gc:Shp:=⟨[qvc],[]⟩
abbrev gm:Ctx (Int):=⟨19,tt,false,false,[],kd [(87,qcx)],la [ay _ 19 [] mh (C:=((List af)×Int)) (S:=Int) (fun x=>((x.1.1,x.1.2.2.1),(pe3 x.1))) mg (CE:=Unit) (E:=Unit) (fun c e=>((()),(()))) (fun c=>()) (fun{R} c a nx dn rt=>bx c.1 c.2 a nx dn rt)],cp 19 tt [] [.tmp 4] gc (fun x=>x.1.1)⟩
theorem gi:CtxM Try.prog gm:=lm fits bi (mC qkn m0)
theorem mr:az Try.prog gm 0 (lc 0 Try.f101 37):=lp rfl gi .z s0 (fun c a=>((c.1,(()),c.2,a,()),(()))) (fun y=>((),()))
abbrev gk:Mdl:=(a9 (.cons (.d false (.slice af.ty)) (.cons (.fn 87 .nil) .nil)) [] [] 1 gc (B:=Int) (fun b=>((b,()),(()))) (fun a=>dj a.1.1))
theorem mi:MdlOK Try.prog 101 gk:=ll Try.func101 rfl gi (.two .z (.two (.two .z (.s 0)) .z)) (sC mr s0)
def fc:Shp:=⟨[qjx],[]⟩
abbrev lw:Ctx (Bool):=⟨9,tt,false,false,[],kd [(101,gk)],la [],cp 9 tt [] [.tmp 4] fc (fun x=>x.1.1)⟩
theorem lu:CtxM Try.prog lw:=lm fits bi (mC mi m0)
abbrev fj:Mdl:=(a9 (.cons (.d false (.slice af.ty)) (.cons (.fn 87 .nil) .nil)) [] [] 1 fc (B:=Bool) (fun b=>((b,()),(()))) (fun a=>c8 a.1.1))
theorem kw:MdlOK Try.prog 86 fj:=ll Try.func86 rfl lu .z s0
def qfd:Shp:=⟨[qjx],[]⟩
abbrev qt4:Ctx (Bool):=⟨16,tt,false,false,[],kd [(86,fj)],la [],cp 16 tt [] [.tmp 4] qfd (fun x=>x.1.1)⟩
theorem qt3:CtxM Try.prog qt4:=lm fits bi (mC kw m0)
abbrev za:Mdl:=(a9 (.cons (.d false cz.ty) (.cons (.d false (.slice af.ty)) .nil)) [] [] 1 qfd (B:=Bool) (fun b=>((b,()),(()))) (fun a=>qk a.1.1 a.1.2.1))
theorem qcy:MdlOK Try.prog 62 za:=ll Try.func62 rfl qt3 .z s0
def z7:Shp:=⟨[qjx],[]⟩
abbrev qn9:Ctx (Bool):=⟨9,tt,false,false,[],kd [],la [],cp 9 tt [] [.tmp 2] z7 (fun x=>x.1.1)⟩
theorem qn8:CtxM Try.prog qn9:=lm fits bi m0
abbrev qb8:Mdl:=(a9 (.cons (.d false qT0) .nil) [] [] 1 z7 (B:=Bool) (fun b=>((b,()),(()))) (fun a=>xj a.1.1))
theorem qj9:MdlOK Try.prog 83 qb8:=ll Try.func83 rfl qn8 .z s0
def mz:Shp:=⟨[qvc],[]⟩
abbrev ny:Ctx (Int):=⟨19,tt,false,false,[],kd [(83,qb8)],la [ay _ 19 [] u5 (C:=(qL1×Int)) (S:=Int) (fun x=>((x.1.1,x.1.2.2.1),(pe3 x.1))) u4 (CE:=Unit) (E:=Unit) (fun c e=>((()),(()))) (fun c=>()) (fun{R} c a nx dn rt=>ek c.1 c.2 a nx dn rt)],cp 19 tt [] [.tmp 4] mz (fun x=>x.1.1)⟩
theorem nv:CtxM Try.prog ny:=lm fits bi (mC qj9 m0)
theorem wx:az Try.prog ny 0 (lc 0 Try.f60 37):=lp rfl nv .z s0 (fun c a=>((c.1,(()),c.2,a,()),(()))) (fun y=>((),()))
abbrev nw:Mdl:=(a9 (.cons (.d false qT1) (.cons (.fn 83 .nil) .nil)) [] [] 1 mz (B:=Int) (fun b=>((b,()),(()))) (fun a=>jx a.1.1))
theorem u6:MdlOK Try.prog 60 nw:=ll Try.func60 rfl nv (.two .z (.two (.two .z (.s 0)) .z)) (sC wx s0)
def ky:Shp:=⟨[qjx],[]⟩
abbrev tx:Ctx (Bool):=⟨9,tt,false,false,[],kd [(60,nw)],la [],cp 9 tt [] [.tmp 4] ky (fun x=>x.1.1)⟩
theorem tw:CtxM Try.prog tx:=lm fits bi (mC u6 m0)
abbrev ln:Mdl:=(a9 (.cons (.d false qT1) (.cons (.fn 83 .nil) .nil)) [] [] 1 ky (B:=Bool) (fun b=>((b,()),(()))) (fun a=>eh a.1.1))
theorem se:MdlOK Try.prog 23 ln:=ll Try.func23 rfl tw .z s0
def qe8:Shp:=⟨[qjx],[]⟩
abbrev qtt:Ctx (Bool):=⟨19,tt,false,false,[],kd [(50,pp),(23,ln)],la [],cp 19 tt [] [.tmp 4] qe8 (fun x=>x.1.1)⟩
theorem qts:CtxM Try.prog qtt:=lm fits bi (mC oz (mC se m0))
abbrev y3:Mdl:=(a9 (.cons (.d false cz.ty) (.cons (.d false qT1) .nil)) [] [] 1 qe8 (B:=Bool) (fun b=>((b,()),(()))) (fun a=>n7 a.1.1 a.1.2.1))
theorem qb9:MdlOK Try.prog 57 y3:=ll Try.func57 rfl qts .z s0
def z6:Shp:=⟨[qjx],[]⟩
abbrev qn7:Ctx (Bool):=⟨9,tt,false,false,[],kd [],la [],cp 9 tt [] [.tmp 3] z6 (fun x=>x.1.1)⟩
theorem qn6:CtxM Try.prog qn7:=lm fits bi m0
abbrev qb6:Mdl:=(a9 (.cons (.d false qT0) (.cons (.rp false qT1) .nil)) [] [] 1 z6 (B:=Bool) (fun b=>((b,()),(()))) (fun a=>xh a.1.1 a.1.2.1))
theorem qj7:MdlOK Try.prog 84 qb6:=ll Try.func84 rfl qn6 .z s0
def m4:Shp:=⟨[qvc],[]⟩
abbrev n5:Ctx (Int):=⟨19,tt,false,false,[],kd [(84,qb6)],la [ay _ 19 [] u9 (C:=(qL1×qL1×Int)) (S:=Int) (fun x=>((x.1.1,x.1.2.1.1,x.1.2.2.1),(pe3 x.1))) u7 (CE:=Unit) (E:=Unit) (fun c e=>((()),(()))) (fun c=>()) (fun{R} c a nx dn rt=>em c.1 c.2.1 c.2.2 a nx dn rt)],cp 19 tt [] [.tmp 4] m4 (fun x=>x.1.1)⟩
theorem nz:CtxM Try.prog n5:=lm fits bi (mC qj7 m0)
theorem wy:az Try.prog n5 0 (lc 0 Try.f60 37):=lp rfl nz .z s0 (fun c a=>((c.1,(c.2.1,()),c.2.2,a,()),(()))) (fun y=>((),()))
abbrev n4:Mdl:=(a9 (.cons (.d false qT1) (.cons (.fn 84 (.cons (.rp false qT1) .nil)) .nil)) [] [] 1 m4 (B:=Int) (fun b=>((b,()),(()))) (fun a=>jy a.1.1 a.1.2.1.1))
theorem va:MdlOK Try.prog 60 n4:=ll Try.func60 rfl nz (.two .z (.two (.two .z (.s 0)) .z)) (sC wy s0)
def kz:Shp:=⟨[qjx],[]⟩
abbrev t3:Ctx (Bool):=⟨9,tt,false,false,[],kd [(60,n4)],la [],cp 9 tt [] [.tmp 4] kz (fun x=>x.1.1)⟩
theorem tz:CtxM Try.prog t3:=lm fits bi (mC va m0)
abbrev lq:Mdl:=(a9 (.cons (.d false qT1) (.cons (.fn 84 (.cons (.rp false qT1) .nil)) .nil)) [] [] 1 kz (B:=Bool) (fun b=>((b,()),(()))) (fun a=>ii a.1.1 a.1.2.1.1))
theorem si:MdlOK Try.prog 23 lq:=ll Try.func23 rfl tz .z s0
def qe7:Shp:=⟨[qjx],[]⟩
abbrev qtr:Ctx (Bool):=⟨10,tt,false,false,[],kd [(23,lq)],la [],cp 10 tt [] [.tmp 4] qe7 (fun x=>x.1.1)⟩
theorem qtq:CtxM Try.prog qtr:=lm fits bi (mC si m0)
abbrev y0:Mdl:=(a9 (.cons (.d false ag.ty) (.cons (.d false qT1) .nil)) [] [] 1 qe7 (B:=Bool) (fun b=>((b,()),(()))) (fun a=>qa a.1.1 a.1.2.1))
theorem qb7:MdlOK Try.prog 58 y0:=ll Try.func58 rfl qtq .z s0
def qe6:Shp:=⟨[q9x,qqc],[qgf]⟩
abbrev qgm:Ctx ((Int×qL1)):=⟨30,tt,false,false,[],kd [(57,y3),(58,y0)],la [ay _ 30 [] qn5 (C:=(qL1×(List ag)×Int)) (S:=(Int×qL1)) (fun x=>((x.1.1,x.1.2.2.1,(pe3 x.1)),((pe4 x.1),x.2.1))) qn4 (CE:=Unit) (E:=qL1) (fun c e=>(((),()),(e,()))) (fun c=>()) (fun{R} c a nx dn rt=>ma c.1 c.2.1 c.2.2 a.1 a.2 nx dn rt)],cp 30 tt [] [.tmp 4, .tmp 5] qe6 (fun x=>(x.1.2.1,x.2.1))⟩
theorem qgl:CtxM Try.prog qgm:=lm fits bi (mC qb9 (mC qb7 m0))
theorem qqp:az Try.prog qgm 0 (lc 0 Try.f21 151):=lp rfl qgl .z s0 (fun c a=>((c.1,(),c.2.1,c.2.2,a.1,()),(a.2,()))) (fun y=>((),y.2.1))
abbrev ss:Mdl:=(a9 (.cons (.d false cz.ty) (.cons (.d false qT1) .nil)) [] [] 2 qe6 (B:=(Int×qL1)) (fun b=>(((),b.1,()),(b.2,()))) (fun a=>lb a.1.1 a.1.2.1))
theorem us:MdlOK Try.prog 21 ss:=ll Try.func21 rfl qgl (.two .z (.two .z (.two .z (.two (.two .z (.s 0)) .z)))) (sC qqp s0)
def qm:Shp:=⟨[q7j],[qgf]⟩
abbrev qc9:Ctx (qL1):=⟨8,tt,false,false,[],kd [],la [],cp 8 tt [] [.tmp 2] qm (fun x=>x.2.1)⟩
theorem qc7:CtxM Try.prog qc9:=lm fits bi m0
abbrev qc8:Mdl:=(a9 (.cons (.nl false (.d false qT1)) .nil) [] [] 1 qm (B:=qL1) (fun b=>(((),()),(b,()))) (fun a=>tj a.1.1))
theorem zm:MdlOK Try.prog 36 qc8:=ll Try.func36 rfl qc7 .z s0
def li:Shp:=⟨[q7j],[qgf]⟩
abbrev qdc:Ctx (qL1):=⟨8,tt,false,false,[],kd [],la [],cp 8 tt [] [.tmp 2] li (fun x=>x.2.1)⟩
theorem qda:CtxM Try.prog qdc:=lm fits bi m0
abbrev qdb:Mdl:=(a9 (.cons (.nl true (.d false qT1)) .nil) [] [] 1 li (B:=qL1) (fun b=>(((),()),(b,()))) (fun a=>jw a.1.1))
theorem zn:MdlOK Try.prog 36 qdb:=ll Try.func36 rfl qda .z s0
abbrev og:Mdl:=(a9 (.cons (.d false qT1) .nil) [] [] 1 li (fun(b:qL1)=>(((),()),(b,()))) (fun(a:((qL1×Unit)×(Unit)))=>fy a.1.1))
theorem ry:MdlOK Try.prog 36 og:=by
 refine q8w (jfb _ _) zm zn (by kernel_rfl) (fun a b h=>⟨?_,h⟩);obtain⟨⟨xs,u1⟩,u2⟩:=a;cases xs with
 |nil=>exact h
 |cons x l=>
  have e:decide ((((x::l).length:Nat):Int)=0)=false:=decide_eq_false (by simp only[List.length_cons];omega);simp only[fy,jw]at h;simp only[tj,e,cond_false];exact h
def qqb:Shp:=⟨[jsj],[]⟩
abbrev quz:Ctx (ByteArray):=⟨27,tt,false,false,[],kd [],la [ay _ 27 [] q0l (C:=(qL1×Int)) (S:=(Int×qL1)) (fun x=>((x.1.2.1,x.1.2.2.1),((pe3 x.1),x.2.1))) q0k (CE:=Unit) (E:=qL1) (fun c e=>(((),()),(e,()))) (fun c=>()) (fun{R} c a nx dn rt=>yk c.1 c.2 a.1 a.2 nx dn rt)],cp 27 tt [] [.tmp 2] qqb (fun x=>x.1.1)⟩
theorem qux:CtxM Try.prog quz:=lm fits bi m0
theorem q25:az Try.prog quz 0 (lc 0 Try.f98 75):=lp rfl qux .z s0 (fun c a=>(((),c.1,c.2,a.1,()),(a.2,()))) (fun y=>((),y.2.1))
abbrev quy:Mdl:=(a9 (.cons (.d false qT1) .nil) [] [] 1 qqb (B:=ByteArray) (fun b=>((b,()),(()))) (fun a=>vb a.1.1))
theorem q0m:MdlOK Try.prog 98 quy:=ll Try.func98 rfl qux (.two .z (.two .z (.two (.two .z (.s 0)) .z))) (sC q25 s0)
def w9:Shp:=⟨[qvc],[]⟩
abbrev x8:Ctx (Int):=⟨25,tt,false,false,[],kd [],la [ay _ 25 [] qf3 (C:=qL1) (S:=(Int×Int)) (fun x=>(x.1.1,(x.1.2.1,x.1.2.2.1))) qf2 (CE:=Unit) (E:=Int) (fun c e=>((e,()),(()))) (fun c=>()) (fun{R} c a nx dn rt=>kb c a.1 a.2 nx dn rt)],cp 25 tt [] [.tmp 2] w9 (fun x=>x.1.1)⟩
theorem x6:CtxM Try.prog x8:=lm fits bi m0
theorem qhn:az Try.prog x8 0 (lc 0 Try.f85 151):=lp rfl x6 .z s0 (fun c a=>((c,a.1,a.2,()),(()))) (fun y=>((),y.1.1))
abbrev x7:Mdl:=(a9 (.cons (.d false qT1) .nil) [] [] 1 w9 (B:=Int) (fun b=>((b,()),(()))) (fun a=>np a.1.1))
theorem qf4:MdlOK Try.prog 85 x7:=ll Try.func85 rfl x6 (.two .z (.two .z (.two .z (.two (.two .z (.s 0)) .z)))) (sC qhn s0)
def qmf:Shp:=⟨[q7j,qqc],[qgf]⟩
abbrev qgo:Ctx ((Int×qL1)):=⟨66,tt,false,false,[],kd [(58,y0),(36,og),(85,x7)],la [ay _ 66 [] qvn (C:=(qL1×Int×ByteArray×qL1×qL1)) (S:=(Int×qL1)) (fun x=>((x.1.2.2.1,(pe3 x.1),x.2.1.1,x.2.1.2.1,x.2.1.2.2.1),((pe4 x.1),x.2.2.1))) qvm (CE:=(ByteArray×qL1×qL1)) (E:=qL1) (fun c e=>(((),(),()),((c.1,c.2.1,c.2.2,()),e,()))) (fun c=>(c.2.2.1,(pe3 c),(pf4 c))) (fun{R} c a nx dn rt=>vk c.1 c.2.1 c.2.2.1 (pe3 c) (pf4 c) a.1 a.2 nx dn rt),ay _ 66 [] qvp (C:=(qL1×Int)) (S:=(Int×qL1)) (fun x=>((x.1.2.1,x.1.2.2.1),((pe3 x.1),x.2.1))) qvo (CE:=Unit) (E:=qL1) (fun c e=>(((),()),(e,()))) (fun c=>()) (fun{R} c a nx dn rt=>vm c.1 c.2 a.1 a.2 nx dn rt)],cp 66 tt [] [.tmp 6, .tmp 7] qmf (fun x=>(x.1.2.1,x.2.1))⟩
theorem qgn:CtxM Try.prog qgo:=lm fits bi (mC qb7 (mC ry (mC qf4 m0)))
theorem qzq:az Try.prog qgo 1 (lc 2 Try.f59 1215):=lp rfl qgn .z s0 (fun c a=>(((),c.1,c.2,a.1,()),(a.2,()))) (fun y=>((),y.2.1))
theorem qzp:az Try.prog qgo 0 (lc 0 Try.f59 607):=lp rfl qgn .z s0 (fun c a=>(((),(),c.1,c.2.1,a.1,()),((c.2.2.1,(pe3 c),(pf4 c),()),a.2,()))) (fun y=>((y.2.1.1,y.2.1.2.1,y.2.1.2.2.1),y.2.2.1))
abbrev qpr:Mdl:=(a9 (.cons (.d false cz.ty) (.cons (.d false qT1) (.cons (.d false qT0) .nil))) [] [] 2 qmf (B:=(Int×qL1)) (fun b=>(((),b.1,()),(b.2,()))) (fun a=>qj8 a.1.1 a.1.2.1 a.1.2.2.1))
theorem qvq:MdlOK Try.prog 59 qpr:=ll Try.func59 rfl qgn (.two .z (.two .z (.two .z (.two .z (.two .z (.two (.two .z (.s 0)) (.two (.two .z (.s 1)) .z))))))) (sC qzp (sC qzq s0))
def qma:Shp:=⟨[q7j,qqc],[qgf]⟩
abbrev q2j:Ctx ((Int×qL1)):=⟨18,tt,false,false,[],kd [(57,y3),(59,qpr)],la [],cp 18 tt [] [.tmp 6, .tmp 7] qma (fun x=>(x.1.2.1,x.2.1))⟩
theorem q2i:CtxM Try.prog q2j:=lm fits bi (mC qb9 (mC qvq m0))
abbrev qpq:Mdl:=(a9 (.cons (.d false cz.ty) (.cons (.d false qT1) (.cons (.d false qT0) .nil))) [] [] 2 qma (B:=(Int×qL1)) (fun b=>(((),b.1,()),(b.2,()))) (fun a=>qd2 a.1.1 a.1.2.1 a.1.2.2.1))
theorem qvk:MdlOK Try.prog 22 qpq:=ll Try.func22 rfl q2i .z s0
def qfn:Shp:=⟨[(0, .d true il.ty),qqc],[]⟩
abbrev zk:Ctx ((il×Int)):=⟨126,tt,false,true,[],kd [(21,ss),(36,og),(98,quy),(22,qpq)],la [ay _ 126 [] qo4 (C:=(Int×Int×qL1×Int×Int×(List ag)×Int×Int×qL2×(List am)×Bool)) (S:=(Int×Bool×(List (ByteArray×Int))×qL2×(List am))) (fun x=>((x.1.1,(pe5 x.1),(pe6 x.1),(pe7 x.1),x.2.1.1,x.2.1.2.1,x.2.1.2.2.1,(pe3 x.2.1),x.2.2.1.1,x.2.2.1.2.1,x.2.2.1.2.2.1),((pe8 x.1),(pe3 x).2.2.1,(pe4 x),(pe5 x),(pe6 x)))) qo3 (CE:=(Int×Int×Int×(List ag)×Int×Int×qL2×(List am)×Bool)) (E:=(Bool×(List (ByteArray×Int))×qL2×(List am))) (fun c e=>((c.1,(),(),(),(),c.2.1,()),((c.2.2.1,(pe3 c),(pe4 c),(pe5 c),()),((pe6 c),(pe7 c),(pf8 c),()),((),(),e.1,()),e.2.1,e.2.2.1,e.2.2.2,()))) (fun c=>(c.1,c.2.1,(pe4 c),(pe5 c),(pe6 c),(pe7 c),(pe8 c),(pe9 c),(pf10 c))) (fun{R} c a nx dn rt=>ij c.1 c.2.1 c.2.2.1 (pe3 c) (pe4 c) (pe5 c) (pe6 c) (pe7 c) (pe8 c) (pe9 c) (pf10 c) a.1 a.2.1 a.2.2.1 (pe3 a) (pf4 a) nx dn rt),ay _ 126 [] qo6 (C:=(Int×Int×(List ag)×Int×Int×qL2×(List am)×Bool)) (S:=(Int×Bool×(List (ByteArray×Int))×qL2×(List am))) (fun x=>((x.1.1,x.2.1.1,x.2.1.2.1,x.2.1.2.2.1,(pe3 x.2.1),x.2.2.1.1,x.2.2.1.2.1,x.2.2.1.2.2.1),((pe5 x.1),(pe3 x).2.2.1,(pe4 x),(pe5 x),(pe6 x)))) qo5 (CE:=(qL2×(List am)×Bool)) (E:=(Bool×qL2×(List am))) (fun c e=>(((),(),()),((c.1,c.2.1,c.2.2,()),((),(),e.1,()),e.2.1,e.2.2,()))) (fun c=>((pe5 c),(pe6 c),(pf7 c))) (fun{R} c a nx dn rt=>j4 c.1 c.2.1 c.2.2.1 (pe3 c) (pe4 c) (pe5 c) (pe6 c) (pf7 c) a.1 a.2.1 a.2.2.1 (pe3 a) (pf4 a) nx dn rt)],cp 126 tt [] [.cell 6 87, .tmp 7] qfn (fun x=>(x.1.1,x.1.2.1))⟩
theorem zj:CtxM Try.prog zk:=lm fits bi (mC us (mC ry (mC q0m (mC qvk m0))))
theorem qrf:az Try.prog zk 0 (lc 2 Try.f79 78431):=lp rfl zj (.two .z (.two .z (.two (.one (.two .z (.two (.d [0,0,2,0,14,30,0,127,255,511,511,1023,4095] [] []) .z))) .z))) s0 (fun c a=>((c.1,(),(),(),(),c.2.1,c.2.2.1,(pe3 c),a.1,()),(((pe4 c),(pe5 c),(pe6 c),(pe7 c),()),((pe8 c),(pe9 c),(pf10 c),()),((),(),a.2.1,()),a.2.2.1,(pe3 a),(pf4 a),()))) (fun y=>((y.1.1,(pe5 y.1),y.2.1.1,y.2.1.2.1,y.2.1.2.2.1,(pe3 y.2.1),y.2.2.1.1,y.2.2.1.2.1,y.2.2.1.2.2.1),((pe3 y).2.2.1,(pe4 y),(pe5 y),(pe6 y))))
theorem qrg:az Try.prog zk 1 (lc 0 Try.f79 607):=lp rfl zj (.two .z (.two (.one (.two (.d [0,0,2,0,14,30,63,127,255,255,511,2047] [] []) (.two .z (.s 0)))) .z)) (sC qrf s0) (fun c a=>((c.1,(),(),(),(),a.1,()),((c.2.1,c.2.2.1,(pe3 c),(pe4 c),()),((pe5 c),(pe6 c),(pf7 c),()),((),(),a.2.1,()),a.2.2.1,(pe3 a),(pf4 a),()))) (fun y=>((y.2.1.1,y.2.1.2.1,y.2.1.2.2.1),(y.2.2.1.2.2.1,(pe3 y),(pe4 y))))
abbrev qho:Mdl:=(a9 (.cons (.d false cz.ty) (.cons (.d false qT1) (.cons (.d false qT0) .nil))) [] [] 2 qfn (B:=(il×Int)) (fun b=>((b.1,b.2,()),(()))) (fun a=>vz a.1.1 a.1.2.1 a.1.2.2.1))
theorem qo7:MdlOK Try.prog 79 qho:=ll Try.func79 rfl zj (.two .z (.two .z (.two .z (.two .z (.two .z (.two (.two .z (.s 1)) .z)))))) (sC qrg s0)
def qps:Shp:=⟨[q7j,qqc],[qgf]⟩
abbrev q4x:Ctx ((Int×qL1)):=⟨17,tt,false,false,[],kd [(50,pp)],la [],cp 17 tt [] [.tmp 4, .tmp 5] qps (fun x=>(x.1.2.1,x.2.1))⟩
theorem q4w:CtxM Try.prog q4x:=lm fits bi (mC oz m0)
abbrev qtu:Mdl:=(a9 (.cons (.d false cz.ty) (.cons (.d false qT0) .nil)) [] [] 2 qps (B:=(Int×qL1)) (fun b=>(((),b.1,()),(b.2,()))) (fun a=>qoa a.1.1 a.1.2.1))
theorem qzr:MdlOK Try.prog 56 qtu:=ll Try.func56 rfl q4w .z s0
def qiz:Shp:=⟨[q7j,qqc],[qgf]⟩
abbrev qzo:Ctx ((Int×qL1)):=⟨10,tt,false,false,[],kd [(56,qtu)],la [],cp 10 tt [] [.tmp 2, .tmp 3] qiz (fun x=>(x.1.2.1,x.2.1))⟩
theorem qzn:CtxM Try.prog qzo:=lm fits bi (mC qzr m0)
abbrev ql9:Mdl:=(a9 (.cons (.d false cz.ty) .nil) [] [] 2 qiz (B:=(Int×qL1)) (fun b=>(((),b.1,()),(b.2,()))) (fun a=>z5 a.1.1))
theorem qtn:MdlOK Try.prog 19 ql9:=ll Try.func19 rfl qzn .z s0
def tl:Shp:=⟨[qjx],[]⟩
abbrev ug:Ctx (Bool):=⟨26,tt,false,false,[],kd [],la [ay _ 26 [] qde (C:=(qL1×qL1×Int)) (S:=Int) (fun x=>((x.1.1,x.1.2.1,x.1.2.2.1),(pe3 x.1))) qdd (CE:=Unit) (E:=Unit) (fun c e=>((()),(()))) (fun c=>()) (fun{R} c a nx dn rt=>f6 c.1 c.2.1 c.2.2 a nx dn rt)],cp 26 tt [] [.tmp 4] tl (fun x=>x.1.1)⟩
theorem uf:CtxM Try.prog ug:=lm fits bi m0
theorem qeo:az Try.prog ug 0 (lc 0 Try.f17 75):=lp rfl uf (.two .z (.two .z (.two (.one (.two .z (.two (.d [0,0,3,7,0,0,48,112,255] [] []) .z))) .z))) s0 (fun c a=>((c.1,c.2.1,c.2.2,a,()),(()))) (fun y=>((),()))
abbrev oh:Mdl:=(a9 (.cons (.d false qT1) (.cons (.d false qT1) .nil)) [] [] 1 tl (B:=Bool) (fun b=>((b,()),(()))) (fun a=>db a.1.1 a.1.2.1))
theorem rz:MdlOK Try.prog 17 oh:=ll Try.func17 rfl uf (.two .z (.two .z (.two (.two .z (.s 0)) .z))) (sC qeo s0)
def qhp:Shp:=⟨[qjx],[]⟩
abbrev qwj:Ctx (Bool):=⟨7,tt,false,false,[],kd [(17,oh)],la [],cp 7 tt [] [.tmp 3] qhp (fun x=>x.1.1)⟩
theorem qwi:CtxM Try.prog qwj:=lm fits bi (mC rz m0)
abbrev qju:Mdl:=(a9 (.cons (.d false qT1) (.cons (.rp false qT1) .nil)) [] [] 1 qhp (B:=Bool) (fun b=>((b,()),(()))) (fun a=>yj a.1.1 a.1.2.1))
theorem qrh:MdlOK Try.prog 100 qju:=ll Try.func100 rfl qwi .z s0
def mm:Shp:=⟨[qvc],[]⟩
abbrev mw:Ctx (Int):=⟨19,tt,false,false,[],kd [(100,qju)],la [ay _ 19 [] t5 (C:=(qL2×qL1×Int)) (S:=Int) (fun x=>((x.1.1,x.1.2.1.1,x.1.2.2.1),(pe3 x.1))) t4 (CE:=Unit) (E:=Unit) (fun c e=>((()),(()))) (fun c=>()) (fun{R} c a nx dn rt=>d8 c.1 c.2.1 c.2.2 a nx dn rt)],cp 19 tt [] [.tmp 4] mm (fun x=>x.1.1)⟩
theorem mt:CtxM Try.prog mw:=lm fits bi (mC qrh m0)
theorem u3:az Try.prog mw 0 (lc 0 Try.f99 37):=lp rfl mt .z s0 (fun c a=>((c.1,(c.2.1,()),c.2.2,a,()),(()))) (fun y=>((),()))
abbrev mu:Mdl:=(a9 (.cons (.d false qT2) (.cons (.fn 100 (.cons (.rp false qT1) .nil)) .nil)) [] [] 1 mm (B:=Int) (fun b=>((b,()),(()))) (fun a=>ja a.1.1 a.1.2.1.1))
theorem t6:MdlOK Try.prog 99 mu:=ll Try.func99 rfl mt (.two .z (.two (.two .z (.s 0)) .z)) (sC u3 s0)
def qm7:Shp:=⟨[qvc],[]⟩
abbrev q24:Ctx (Int):=⟨9,tt,false,false,[],kd [(99,mu)],la [],cp 9 tt [] [.tmp 4] qm7 (fun x=>x.1.1)⟩
theorem q23:CtxM Try.prog q24:=lm fits bi (mC t6 m0)
abbrev qp9:Mdl:=(a9 (.cons (.d false il.ty) (.cons (.d false qT1) .nil)) [] [] 1 qm7 (B:=Int) (fun b=>((b,()),(()))) (fun a=>qep a.1.1 a.1.2.1))
theorem qwk:MdlOK Try.prog 80 qp9:=ll Try.func80 rfl q23 .z s0
def qac:Shp:=⟨[q0t,qqc],[]⟩
abbrev pt:Ctx (((List (Int×(List ab)))×Int×Int×Int)):=⟨139,tt,false,false,[],kd [(21,ss),(79,qho),(19,ql9),(80,qp9)],la [ay _ 139 [] qkg (C:=((List am)×Int×(List (Int×(List ab)))×Int×Int×qL2×(List am)×Bool×Int×Int×(List (Int×(List ab))))) (S:=(Bool×Int×(List Bool))) (fun x=>(((pe5 x.1),(pe6 x.1),x.2.1.1,x.2.1.2.1,x.2.1.2.2.1,x.2.2.1.1,x.2.2.1.2.1,x.2.2.1.2.2.1,(pe3 x).2.1,(pe3 x).2.2.1,(pe5 x)),((pe4 x.1),(pe7 x.1),(pe4 x)))) qkf (CE:=((List (Int×(List ab)))×Int×Int×qL2×(List am)×Bool×Int×Int×(List (Int×(List ab))))) (E:=(Bool×(List Bool))) (fun c e=>(((),(),(),(),e.1,()),((c.1,c.2.1,c.2.2.1,()),((pe3 c),(pe4 c),(pe5 c),()),((),(pe6 c),(pe7 c),()),e.2,(pf8 c),()))) (fun c=>(c.2.2.1,(pe3 c),(pe4 c),(pe5 c),(pe6 c),(pe7 c),(pe8 c),(pe9 c),(pf10 c))) (fun{R} c a nx dn rt=>ic c.1 c.2.1 c.2.2.1 (pe3 c) (pe4 c) (pe5 c) (pe6 c) (pe7 c) (pe8 c) (pe9 c) (pf10 c) a.1 a.2.1 a.2.2 nx dn rt),ay _ 139 [] qki (C:=((List (Int×(List ab)))×Int×Int×qL2×(List am)×Bool×Int×Int×(List (Int×(List ab))))) (S:=(Bool×(List Bool))) (fun x=>((x.2.1.1,x.2.1.2.1,x.2.1.2.2.1,x.2.2.1.1,x.2.2.1.2.1,x.2.2.1.2.2.1,(pe3 x).2.1,(pe3 x).2.2.1,(pe5 x)),((pe4 x.1),(pe4 x)))) qkh (CE:=((List (Int×(List ab)))×Int×Int×qL2×(List am)×Bool×Int×Int×(List (Int×(List ab))))) (E:=(List Bool)) (fun c e=>(((),(),(),(),()),((c.1,c.2.1,c.2.2.1,()),((pe3 c),(pe4 c),(pe5 c),()),((),(pe6 c),(pe7 c),()),e,(pf8 c),()))) (fun c=>(c.1,c.2.1,c.2.2.1,(pe3 c),(pe4 c),(pe5 c),(pe6 c),(pe7 c),(pf8 c))) (fun{R} c a nx dn rt=>ie c.1 c.2.1 c.2.2.1 (pe3 c) (pe4 c) (pe5 c) (pe6 c) (pe7 c) (pf8 c) a.1 a.2 nx dn rt),ay _ 139 [] qkk (C:=((List Bool)×(List am)×Int×(List (Int×(List ab)))×Int×Int×Int×Int)) (S:=(Int×(List (Int×(List ab))))) (fun x=>((x.1.2.2.1,(pe3 x.1),(pe4 x.1),x.2.1.1,x.2.1.2.1,x.2.1.2.2.1,x.2.2.1.2.1,x.2.2.1.2.2.1),((pe5 x.1),(pe3 x)))) qkj (CE:=((List (Int×(List ab)))×Int×Int×Int×Int)) (E:=(List (Int×(List ab)))) (fun c e=>(((),(),()),((c.1,c.2.1,c.2.2.1,()),((),(pe3 c),(pf4 c),()),e,()))) (fun c=>((pe3 c),(pe4 c),(pe5 c),(pe6 c),(pf7 c))) (fun{R} c a nx dn rt=>fm c.1 c.2.1 c.2.2.1 (pe3 c) (pe4 c) (pe5 c) (pe6 c) (pf7 c) a.1 a.2 nx dn rt)],cp 139 tt [] [.cell 6 77, .tmp 7] qac (fun x=>(x.1.1.1,x.1.1.2.1,x.1.1.2.2.1,x.1.2.1))⟩
theorem pr:CtxM Try.prog pt:=lm fits bi (mC us (mC qo7 (mC qtn (mC qwk m0))))
theorem qmi:az Try.prog pt 0 (lc 2 Try.f51 2529279):=lp rfl pr .z s0 (fun c a=>(((),(),(),(),a.1,c.1,c.2.1,a.2.1,()),((c.2.2.1,(pe3 c),(pe4 c),()),((pe5 c),(pe6 c),(pe7 c),()),((),(pe8 c),(pe9 c),()),a.2.2,(pf10 c),()))) (fun y=>((y.2.1.1,y.2.1.2.1,y.2.1.2.2.1,y.2.2.1.1,y.2.2.1.2.1,y.2.2.1.2.2.1,(pe3 y).2.1,(pe3 y).2.2.1,(pe5 y)),((pe4 y.1),(pe4 y))))
theorem qmk:az Try.prog pt 2 (lc 4 Try.f51 77823):=lp rfl pr (.two .z (.two .z (.two (.one (.two .z (.two .z (.two (.d [0,1,0,4,0,16,0,64,240,0,512,0,2048,7680,15872,32752,65535] [15,16] []) .z)))) .z))) s0 (fun c a=>(((),(),c.1,c.2.1,c.2.2.1,a.1,()),(((pe3 c),(pe4 c),(pe5 c),()),((),(pe6 c),(pf7 c),()),a.2,()))) (fun y=>((y.2.1.1,y.2.1.2.1,y.2.1.2.2.1,y.2.2.1.2.1,y.2.2.1.2.2.1),(pe3 y)))
theorem qmj:az Try.prog pt 1 (lc 0 Try.f51 38911):=lp rfl pr (.two .z (.one (.two .z (.two .z (.s 0))))) (sC qmi s0) (fun c a=>(((),(),(),(),a.1,()),((c.1,c.2.1,c.2.2.1,()),((pe3 c),(pe4 c),(pe5 c),()),((),(pe6 c),(pe7 c),()),a.2,(pf8 c),()))) (fun y=>((y.2.1.1,y.2.1.2.1,y.2.1.2.2.1,y.2.2.1.1,y.2.2.1.2.1,y.2.2.1.2.2.1,(pe3 y).2.1,(pe3 y).2.2.1,(pe5 y)),(pe4 y)))
abbrev ut:Mdl:=(a9 (.cons (.d false cz.ty) (.cons (.d false qT1) (.cons (.d false qT0) .nil))) [] [] 2 qac (B:=((List (Int×(List ab)))×Int×Int×Int)) (fun b=>(((b.1,b.2.1,b.2.2.1,()),b.2.2.2,()),(()))) (fun a=>aw a.1.1 a.1.2.1 a.1.2.2.1))
theorem y5:MdlOK Try.prog 51 ut:=ll Try.func51 rfl pr (.two .z (.two .z (.two .z (.two .z (.two .z (.two .z (.two .z (.two (.d [0,0,0,6,0,16,48,127,0,511] [9] []) (.two .z (.two .z (.two .z (.two (.two .z (.s 1)) (.two (.two .z (.s 2)) .z))))))))))))) (sC qmj (sC qmk s0))
def qfc:Shp:=⟨[q0t,qqc],[]⟩
abbrev qt2:Ctx (((List (Int×(List ab)))×Int×Int×Int)):=⟨26,tt,false,false,[],kd [(50,pp),(62,za),(51,ut)],la [],cp 26 tt [] [.cell 8 77, .tmp 9] qfc (fun x=>(x.1.1.1,x.1.1.2.1,x.1.1.2.2.1,x.1.2.1))⟩
theorem qt1:CtxM Try.prog qt2:=lm fits bi (mC oz (mC qcy (mC y5 m0)))
abbrev sx:Mdl:=(a9 (.cons (.d false cz.ty) (.cons (.d false qT1) (.cons (.d false (.slice af.ty)) (.cons (.d false qT0) .nil)))) [] [] 2 qfc (B:=((List (Int×(List ab)))×Int×Int×Int)) (fun b=>(((b.1,b.2.1,b.2.2.1,()),b.2.2.2,()),(()))) (fun a=>br a.1.1 a.1.2.1 a.1.2.2.1 (pe3 a.1)))
theorem uu:MdlOK Try.prog 41 sx:=ll Try.func41 rfl qt1 .z s0
def ud:Shp:=⟨[qvc,(1, .d true .bool)],[]⟩
abbrev qg0:Ctx ((Int×Bool)):=⟨14,tt,false,false,[],kd [],la [],cp 14 tt [] [.tmp 2, .tmp 3] ud (fun x=>(x.1.1,x.1.2.1))⟩
theorem qgz:CtxM Try.prog qg0:=lm fits bi m0
abbrev ip:Mdl:=(a9 (.cons (.agg (.cons (.dm false qT0 (.slice ab.ty)) (.cons (.d false qT0) (.cons (.d false qT0) .nil)))) .nil) [] [] 2 ud (B:=(Int×Bool)) (fun b=>((b.1,b.2,()),(()))) (fun a=>a8 a.1.1.1 a.1.1.2.1 a.1.1.2.2.1))
theorem jv:MdlOK Try.prog 42 ip:=ll Try.func42 rfl qgz (.two .z (.two .z (.two (.d [0,1,0,4,12,28,60,3,255] [] []) .z))) s0
def oj:Shp:=⟨[qvc],[]⟩
abbrev y7:Ctx (Int):=⟨9,tt,false,false,[],kd [],la [],cp 9 tt [] [.tmp 3] oj (fun x=>x.1.1)⟩
theorem y6:CtxM Try.prog y7:=lm fits bi m0
abbrev o7:Mdl:=(a9 (.cons (.d false qT0) (.cons (.rp false (.slice af.ty)) .nil)) [] [] 1 oj (B:=Int) (fun b=>((b,()),(()))) (fun a=>eu a.1.1 a.1.2.1))
theorem xl:MdlOK Try.prog 81 o7:=ll Try.func81 rfl y6 .z s0
def x0:Shp:=⟨[qjx],[]⟩
abbrev qkm:Ctx (Bool):=⟨34,tt,false,false,[],kd [],la [],cp 34 tt [] [.tmp 6] x0 (fun x=>x.1.1)⟩
theorem qkl:CtxM Try.prog qkm:=lm fits bi m0
abbrev nc:Mdl:=(a9 (.cons (.d false ae.ty) (.cons (.d false ae.ty) (.cons (.d false .bool) .nil))) [] [] 1 x0 (B:=Bool) (fun b=>((b,()),(()))) (fun a=>i5 a.1.1 a.1.2.1 a.1.2.2.1))
theorem pb:MdlOK Try.prog 92 nc:=ll Try.func92 rfl qkl .z s0
def ri:Shp:=⟨[q7j],[qh9]⟩
abbrev js:Ctx ((List ae)):=⟨77,tt,false,false,[],kd [(81,o7),(92,nc)],la [ay _ 77 [] qa4 (C:=((List af)×Bool×Int×Int×Int×(List (Int×(List ab)))×Nat×(List ab)×Int×(List (Int×(List ab)))×Int×Int)) (S:=(Bool×Int×(List ae))) (fun x=>((x.1.1.1,x.1.2.1,(pe5 x.1),(pe6 x.1),(pe7 x.1),(pe8 x.1),(pe9 x.1),(pe10 x.1),(pe11 x.1),x.2.1.1,x.2.1.2.1,x.2.1.2.2.1),((pe4 x.1),(pe12 x.1),x.2.2.1))) qa3 (CE:=((List af)×Bool×Int×Int×(List (Int×(List ab)))×Nat×(List (Int×(List ab)))×Int×Int)) (E:=(Bool×(List ae))) (fun c e=>(((c.1,()),c.2.1,(),(),e.1,c.2.2.1,(pe3 c),(pe4 c),(pe5 c),()),(((pe6 c),(pe7 c),(pf8 c),()),e.2,()))) (fun c=>(c.1,c.2.1,(pe3 c),(pe4 c),(pe5 c),(pe6 c),(pe9 c),(pe10 c),(pf11 c))) (fun{R} c a nx dn rt=>qe c.1 c.2.1 c.2.2.1 (pe3 c) (pe4 c) (pe5 c) (pe7 c) (pe8 c) (pe9 c) (pe10 c) (pf11 c) a.1 a.2.1 a.2.2 nx dn rt),uv _ 77 tt false [] (rc Try.f71 10647) qa5 (C:=((List af)×Bool×Int×Int×(List (Int×(List ab)))×(List (Int×(List ab)))×Int×Int)) (S:=(Bool×(List ae))) (fun x=>((x.1.1.1,x.1.2.1,(pe5 x.1),(pe6 x.1),(pe7 x.1),x.2.1.1,x.2.1.2.1,x.2.1.2.2.1),((pe4 x.1),x.2.2.1))) (fun c a=>(((c.1,()),c.2.1,(),(),a.1,c.2.2.1,(pe3 c),(pe4 c),()),(((pe5 c),(pe6 c),(pf7 c),()),a.2,()))) (fun c=>(pe4 c)) (fun{R} c a en nx rt=>qf c.1 c.2.1 c.2.2.1 (pe3 c) (pe4 c) (pe5 c) (pe6 c) (pf7 c) a.1 a.2 en nx rt),qny _ 77 [] qa7 (C:=((List af)×Bool×Int×(List (Int×(List ab)))×Int×Int)) (S:=(Int×(List ae))) (fun x=>((x.1.1.1,x.1.2.1,(pe4 x.1),x.2.1.1,x.2.1.2.1,x.2.1.2.2.1),((pe5 x.1),x.2.2.1))) qa6 (CE:=Unit) (E:=(List ae)) (fun c e=>(((),()),(e,()))) (fun c=>()) (fun{R} c a nx dn rt=>qg c.1 c.2.1 c.2.2.1 (pe3 c) (pe4 c) (pf5 c) a.1 a.2 nx dn rt)],cp 77 tt [] [.tmp 6] ri (fun x=>x.2.1)⟩
theorem jr:CtxM Try.prog js:=lm fits bi (mC xl (mC pb m0))
theorem qci:az Try.prog js 0 (lc 4 Try.f71 10168727):=lp rfl jr (.two .z (.two .z (.two (.one (.two .z (.two .z (.two .z (.two (.d [0,1,0,0,8,28,63,127,255] [8] []) (.two .z (.two (.d [0,0,0,6,14,0,63] [] []) .z))))))) .z))) s0 (fun c a=>(((c.1,()),c.2.1,(),(),a.1,c.2.2.1,(pe3 c),(pe4 c),(pe5 c),(pe6 c),(pe7 c),(pe8 c),a.2.1,()),(((pe9 c),(pe10 c),(pf11 c),()),a.2.2,()))) (fun y=>((y.1.1.1,y.1.2.1,(pe5 y.1),(pe6 y.1),(pe7 y.1),(pe8 y.1),y.2.1.1,y.2.1.2.1,y.2.1.2.2.1),((pe4 y.1),y.2.2.1)))
theorem qcj:az Try.prog js 1 ((rc Try.f71 10647).code):=rl qT0 (.slice ab.ty) rfl jr (.two .z (.s 0)) (sC qci s0) 75 28 29 30 32 false rfl
theorem qck:az Try.prog js 2 (lc 0 Try.f71 151):=nl rfl jr (.two .z (.two .z (.two (.one (.two .z (.two (.s 1) .z))) .z))) (sC qcj s0) (fun c a=>(((c.1,()),c.2.1,(),(),c.2.2.1,a.1,()),(((pe3 c),(pe4 c),(pf5 c),()),a.2,()))) (fun y=>((),y.2.1))
abbrev s3:Mdl:=(a9 (.cons (.agg (.cons (.dm false qT0 (.slice ab.ty)) (.cons (.d false qT0) (.cons (.d false qT0) .nil)))) (.cons (.fn 81 (.cons (.rp false (.slice af.ty)) .nil)) (.cons (.d false .bool) .nil))) [] [] 1 ri (B:=(List ae)) (fun b=>(((),()),(b,()))) (fun a=>oa a.1.1.1 a.1.1.2.1 a.1.1.2.2.1 a.1.2.1.1 a.1.2.2.1))
theorem qa8:MdlOK Try.prog 71 s3:=ll Try.func71 rfl jr (.two .z (.two .z (.two .z (.two (.two .z (.s 2)) .z)))) (sC qck s0)
def ub:Shp:=⟨[qjx],[]⟩
abbrev o5:Ctx (Bool):=⟨51,tt,false,false,[],kd [],la [ay _ 51 [] qd5 (C:=(Int×(List ab)×Int×(List (Int×(List ab)))×Int×Int)) (S:=(Int×(List (Int×Bool))×qL1)) (fun x=>((x.1.1,(pe4 x.1),(pe5 x.1),x.2.1.1,x.2.1.2.1,x.2.1.2.2.1),((pe6 x.1),x.2.2.1,(pe3 x)))) qd4 (CE:=(Int×(List (Int×(List ab)))×Int×Int)) (E:=((List (Int×Bool))×qL1)) (fun c e=>((c.1,(),(),(),()),((c.2.1,c.2.2.1,c.2.2.2,()),e.1,e.2,()))) (fun c=>(c.1,(pe3 c),(pe4 c),(pf5 c))) (fun{R} c a nx dn rt=>gg c.1 c.2.1 c.2.2.1 (pe3 c) (pe4 c) (pf5 c) a.1 a.2.1 a.2.2 nx dn rt),ay _ 51 [] qd7 (C:=(Int×(List (Int×(List ab)))×Int×Int)) (S:=((List (Int×Bool))×qL1)) (fun x=>((x.1.1,x.2.1.1,x.2.1.2.1,x.2.1.2.2.1),(x.2.2.1,(pe3 x)))) qd6 (CE:=Unit) (E:=Unit) (fun c e=>((()),(()))) (fun c=>()) (fun{R} c a nx dn rt=>de c.1 c.2.1 c.2.2.1 c.2.2.2 a.1 a.2 nx dn rt)],cp 51 tt [] [.tmp 6] ub (fun x=>x.1.1)⟩
theorem o4:CtxM Try.prog o5:=lm fits bi m0
theorem qfs:az Try.prog o5 0 (lc 2 Try.f75 9803):=lp rfl o4 .z s0 (fun c a=>((c.1,(),(),(),c.2.1,c.2.2.1,a.1,()),(((pe3 c),(pe4 c),(pf5 c),()),a.2.1,a.2.2,()))) (fun y=>((y.1.1,y.2.1.1,y.2.1.2.1,y.2.1.2.2.1),(y.2.2.1,(pe3 y))))
theorem qft:az Try.prog o5 1 (lc 0 Try.f75 75):=lp rfl o4 (.two .z (.two (.one (.two .z (.two (.d [0,1,0,4,12,31,63,0] [] []) (.s 0)))) .z)) (sC qfs s0) (fun c a=>((c.1,(),(),(),()),((c.2.1,c.2.2.1,c.2.2.2,()),a.1,a.2,()))) (fun y=>((),()))
abbrev wj:Mdl:=(a9 (.cons (.agg (.cons (.dm false qT0 (.slice ab.ty)) (.cons (.d false qT0) (.cons (.d false qT0) .nil)))) (.cons (.d false qT0) (.cons (.d false qT0) .nil))) [] [] 1 ub (B:=Bool) (fun b=>((b,()),(()))) (fun a=>lz a.1.1.1 a.1.1.2.1 a.1.1.2.2.1 a.1.2.1 a.1.2.2.1))
theorem qd8:MdlOK Try.prog 75 wj:=ll Try.func75 rfl o4 (.two .z (.two .z (.two (.two .z (.s 1)) .z))) (sC qft s0)
def wl:Shp:=⟨[qjx],[]⟩
abbrev je:Ctx (Bool):=⟨81,tt,false,false,[],kd [(75,wj)],la [ay _ 81 [] qfv (C:=((List af)×(List ab)×Int×(List (Int×(List ab)))×Int×Int)) (S:=(Int×(List (Int×Bool))×qL1)) (fun x=>((x.1.1,(pe4 x.1),(pe5 x.1),x.2.1.1,x.2.1.2.1,x.2.1.2.2.1),((pe6 x.1),x.2.2.1,(pe3 x)))) qfu (CE:=((List af)×(List (Int×(List ab)))×Int×Int)) (E:=((List (Int×Bool))×qL1)) (fun c e=>((c.1,(),(),(),()),((c.2.1,c.2.2.1,c.2.2.2,()),e.1,e.2,()))) (fun c=>(c.1,(pe3 c),(pe4 c),(pf5 c))) (fun{R} c a nx dn rt=>bz c.1 c.2.1 c.2.2.1 (pe3 c) (pe4 c) (pf5 c) a.1 a.2.1 a.2.2 nx dn rt),ay _ 81 [] qfx (C:=((List af)×(List (Int×(List ab)))×Int×Int)) (S:=((List (Int×Bool))×qL1)) (fun x=>((x.1.1,x.2.1.1,x.2.1.2.1,x.2.1.2.2.1),(x.2.2.1,(pe3 x)))) qfw (CE:=((List af)×(List (Int×(List ab)))×Int×Int)) (E:=(List (Int×Bool))) (fun c e=>((c.1,(),(),()),((c.2.1,c.2.2.1,c.2.2.2,()),e,()))) (fun c=>(c.1,c.2.1,c.2.2.1,c.2.2.2)) (fun{R} c a nx dn rt=>b7 c.1 c.2.1 c.2.2.1 c.2.2.2 a.1 a.2 nx dn rt),ay _ 81 [] qfz (C:=((List af)×Int×(List (Int×Bool))×Nat×(List ab)×Int×(List (Int×(List ab)))×Int×Int)) (S:=Int) (fun x=>((x.1.1,x.1.2.2.1,(pe3 x.1),(pe4 x.1),(pe5 x.1),(pe6 x.1),x.2.1.1,x.2.1.2.1,x.2.1.2.2.1),(pe7 x.1))) qfy (CE:=((List af)×(List (Int×Bool))×Nat×(List (Int×(List ab)))×Int×Int)) (E:=Unit) (fun c e=>((c.1,(),c.2.1,c.2.2.1,()),(((pe3 c),(pe4 c),(pf5 c),()),()))) (fun c=>(c.1,c.2.2.1,(pe3 c),(pe6 c),(pe7 c),(pf8 c))) (fun{R} c a nx dn rt=>be c.1 c.2.1 c.2.2.1 (pe4 c) (pe5 c) (pe6 c) (pe7 c) (pf8 c) a nx dn rt),uv _ 81 tt false [] (rc Try.f47 23) qf0 (C:=((List af)×(List (Int×Bool))×(List (Int×(List ab)))×Int×Int)) (S:=Unit) (fun x=>((x.1.1,x.1.2.2.1,x.2.1.1,x.2.1.2.1,x.2.1.2.2.1),())) (fun c a=>((c.1,(),c.2.1,()),((c.2.2.1,(pe3 c),(pf4 c),()),()))) (fun c=>c.2.1) (fun{R} c a en nx rt=>gz c.1 c.2.1 c.2.2.1 (pe3 c) (pf4 c) en nx rt)],cp 81 tt [] [.tmp 4] wl (fun x=>x.1.1)⟩
theorem jd:CtxM Try.prog je:=lm fits bi (mC qd8 m0)
theorem qgx:az Try.prog je 2 (lc 6 Try.f47 19863):=lp rfl jd .z s0 (fun c a=>((c.1,(),c.2.1,c.2.2.1,(pe3 c),(pe4 c),(pe5 c),a,()),(((pe6 c),(pe7 c),(pf8 c),()),()))) (fun y=>((y.1.1,y.1.2.2.1,(pe3 y.1),y.2.1.1,y.2.1.2.1,y.2.1.2.2.1),()))
theorem qgv:az Try.prog je 0 (lc 2 Try.f47 4683):=lp rfl jd .z s0 (fun c a=>((c.1,(),(),(),c.2.1,c.2.2.1,a.1,()),(((pe3 c),(pe4 c),(pf5 c),()),a.2.1,a.2.2,()))) (fun y=>((y.1.1,y.2.1.1,y.2.1.2.1,y.2.1.2.2.1),(y.2.2.1,(pe3 y))))
theorem qgw:az Try.prog je 1 (lc 0 Try.f47 75):=lp rfl jd (.two .z (.two (.one (.two (.d [0,1,0,4,12,31,63,0] [] []) (.s 0))) .z)) (sC qgv s0) (fun c a=>((c.1,(),(),(),()),((c.2.1,c.2.2.1,c.2.2.2,()),a.1,a.2,()))) (fun y=>((y.1.1,y.2.1.1,y.2.1.2.1,y.2.1.2.2.1),y.2.2.1))
theorem qgy:az Try.prog je 3 ((rc Try.f47 23).code):=rl qT0 .bool rfl jd (.two .z (.s 2)) (sC qgx s0) 128 51 52 53 55 true rfl
abbrev p6:Mdl:=(a9 (.cons (.agg (.cons (.dm false qT0 (.slice ab.ty)) (.cons (.d false qT0) (.cons (.d false qT0) .nil)))) (.cons (.d false (.slice af.ty)) .nil)) [] [] 1 wl (B:=Bool) (fun b=>((b,()),(()))) (fun a=>ct a.1.1.1 a.1.1.2.1 a.1.1.2.2.1 a.1.2.1))
theorem uc:MdlOK Try.prog 47 p6:=ll Try.func47 rfl jd (.two .z (.two .z (.two (.two .z (.s 1)) (.two (.s 3) .z)))) (sC qgw (sC qgy s0))
def ol:Shp:=⟨[qvc],[]⟩
abbrev y9:Ctx (Int):=⟨9,tt,false,false,[],kd [],la [],cp 9 tt [] [.tmp 3] ol (fun x=>x.1.1)⟩
theorem y8:CtxM Try.prog y9:=lm fits bi m0
abbrev o8:Mdl:=(a9 (.cons (.d false qT0) (.cons (.rp false (.slice af.ty)) .nil)) [] [] 1 ol (B:=Int) (fun b=>((b,()),(()))) (fun a=>ey a.1.1 a.1.2.1))
theorem xm:MdlOK Try.prog 82 o8:=ll Try.func82 rfl y8 .z s0
def rj:Shp:=⟨[q7j],[qh9]⟩
abbrev ju:Ctx ((List ae)):=⟨77,tt,false,false,[],kd [(82,o8),(92,nc)],la [ay _ 77 [] qba (C:=((List af)×Bool×Int×Int×Int×(List (Int×(List ab)))×Nat×(List ab)×Int×(List (Int×(List ab)))×Int×Int)) (S:=(Bool×Int×(List ae))) (fun x=>((x.1.1.1,x.1.2.1,(pe5 x.1),(pe6 x.1),(pe7 x.1),(pe8 x.1),(pe9 x.1),(pe10 x.1),(pe11 x.1),x.2.1.1,x.2.1.2.1,x.2.1.2.2.1),((pe4 x.1),(pe12 x.1),x.2.2.1))) qa9 (CE:=((List af)×Bool×Int×Int×(List (Int×(List ab)))×Nat×(List (Int×(List ab)))×Int×Int)) (E:=(Bool×(List ae))) (fun c e=>(((c.1,()),c.2.1,(),(),e.1,c.2.2.1,(pe3 c),(pe4 c),(pe5 c),()),(((pe6 c),(pe7 c),(pf8 c),()),e.2,()))) (fun c=>(c.1,c.2.1,(pe3 c),(pe4 c),(pe5 c),(pe6 c),(pe9 c),(pe10 c),(pf11 c))) (fun{R} c a nx dn rt=>qh c.1 c.2.1 c.2.2.1 (pe3 c) (pe4 c) (pe5 c) (pe7 c) (pe8 c) (pe9 c) (pe10 c) (pf11 c) a.1 a.2.1 a.2.2 nx dn rt),uv _ 77 tt false [] (rc Try.f71 10647) qbb (C:=((List af)×Bool×Int×Int×(List (Int×(List ab)))×(List (Int×(List ab)))×Int×Int)) (S:=(Bool×(List ae))) (fun x=>((x.1.1.1,x.1.2.1,(pe5 x.1),(pe6 x.1),(pe7 x.1),x.2.1.1,x.2.1.2.1,x.2.1.2.2.1),((pe4 x.1),x.2.2.1))) (fun c a=>(((c.1,()),c.2.1,(),(),a.1,c.2.2.1,(pe3 c),(pe4 c),()),(((pe5 c),(pe6 c),(pf7 c),()),a.2,()))) (fun c=>(pe4 c)) (fun{R} c a en nx rt=>qi c.1 c.2.1 c.2.2.1 (pe3 c) (pe4 c) (pe5 c) (pe6 c) (pf7 c) a.1 a.2 en nx rt),qny _ 77 [] qbd (C:=((List af)×Bool×Int×(List (Int×(List ab)))×Int×Int)) (S:=(Int×(List ae))) (fun x=>((x.1.1.1,x.1.2.1,(pe4 x.1),x.2.1.1,x.2.1.2.1,x.2.1.2.2.1),((pe5 x.1),x.2.2.1))) qbc (CE:=Unit) (E:=(List ae)) (fun c e=>(((),()),(e,()))) (fun c=>()) (fun{R} c a nx dn rt=>qj c.1 c.2.1 c.2.2.1 (pe3 c) (pe4 c) (pf5 c) a.1 a.2 nx dn rt)],cp 77 tt [] [.tmp 6] rj (fun x=>x.2.1)⟩
theorem jt:CtxM Try.prog ju:=lm fits bi (mC xm (mC pb m0))
theorem qcn:az Try.prog ju 0 (lc 4 Try.f71 10168727):=lp rfl jt (.two .z (.two .z (.two (.one (.two .z (.two .z (.two .z (.two (.d [0,1,0,0,8,28,63,127,255] [8] []) (.two .z (.two (.d [0,0,0,6,14,0,63] [] []) .z))))))) .z))) s0 (fun c a=>(((c.1,()),c.2.1,(),(),a.1,c.2.2.1,(pe3 c),(pe4 c),(pe5 c),(pe6 c),(pe7 c),(pe8 c),a.2.1,()),(((pe9 c),(pe10 c),(pf11 c),()),a.2.2,()))) (fun y=>((y.1.1.1,y.1.2.1,(pe5 y.1),(pe6 y.1),(pe7 y.1),(pe8 y.1),y.2.1.1,y.2.1.2.1,y.2.1.2.2.1),((pe4 y.1),y.2.2.1)))
theorem qco:az Try.prog ju 1 ((rc Try.f71 10647).code):=rl qT0 (.slice ab.ty) rfl jt (.two .z (.s 0)) (sC qcn s0) 75 28 29 30 32 false rfl
theorem qcp:az Try.prog ju 2 (lc 0 Try.f71 151):=nl rfl jt (.two .z (.two .z (.two (.one (.two .z (.two (.s 1) .z))) .z))) (sC qco s0) (fun c a=>(((c.1,()),c.2.1,(),(),c.2.2.1,a.1,()),(((pe3 c),(pe4 c),(pf5 c),()),a.2,()))) (fun y=>((),y.2.1))
abbrev s4:Mdl:=(a9 (.cons (.agg (.cons (.dm false qT0 (.slice ab.ty)) (.cons (.d false qT0) (.cons (.d false qT0) .nil)))) (.cons (.fn 82 (.cons (.rp false (.slice af.ty)) .nil)) (.cons (.d false .bool) .nil))) [] [] 1 rj (B:=(List ae)) (fun b=>(((),()),(b,()))) (fun a=>oc a.1.1.1 a.1.1.2.1 a.1.1.2.2.1 a.1.2.1.1 a.1.2.2.1))
theorem qbe:MdlOK Try.prog 71 s4:=ll Try.func71 rfl jt (.two .z (.two .z (.two .z (.two (.two .z (.s 2)) .z)))) (sC qcp s0)
def p2:Shp:=⟨[q7p],[]⟩
abbrev qbg:Ctx (af):=⟨25,tt,false,false,[],kd [(71,s3),(71,s4),(47,p6)],la [],cp 25 tt [] [.cell 4 40] p2 (fun x=>x.1.1)⟩
theorem qbf:CtxM Try.prog qbg:=lm fits bi (mC qa8 (mC qbe (mC uc m0)))
abbrev ld:Mdl:=(a9 (.cons (.agg (.cons (.dm false qT0 (.slice ab.ty)) (.cons (.d false qT0) (.cons (.d false qT0) .nil)))) (.cons (.d false (.slice af.ty)) .nil)) [] [] 1 p2 (B:=af) (fun b=>((b,()),(()))) (fun a=>fw a.1.1.1 a.1.1.2.1 a.1.1.2.2.1 a.1.2.1))
theorem o9:MdlOK Try.prog 55 ld:=ll Try.func55 rfl qbf .z s0
def xy:Shp:=⟨[q7p,qqc],[]⟩
abbrev qkb:Ctx ((af×Int)):=⟨37,tt,false,false,[],kd [(41,sx),(42,ip),(55,ld)],la [],cp 37 tt [] [.cell 8 40, .tmp 9] xy (fun x=>(x.1.1,x.1.2.1))⟩
theorem qka:CtxM Try.prog qkb:=lm fits bi (mC uu (mC jv (mC o9 m0)))
abbrev y4:Mdl:=(a9 (.cons (.agg (.cons (.d false qT0) (.cons (.d false (.slice ag.ty)) (.cons (.d false qT0) (.cons (.d false qT0) .nil))))) (.cons (.d false qT1) (.cons (.d false (.slice af.ty)) (.cons (.d false qT0) .nil)))) [] [] 2 xy (B:=(af×Int)) (fun b=>((b.1,b.2,()),(()))) (fun a=>sw a.1.1.1 a.1.1.2.1 a.1.1.2.2.1 (pe3 a.1.1) a.1.2.1 a.1.2.2.1 (pe3 a.1)))
theorem qgt:MdlOK Try.prog 18 y4:=ll Try.func18 rfl qka .z s0
def xz:Shp:=⟨[qvc],[]⟩
abbrev qkd:Ctx (Int):=⟨9,tt,false,false,[],kd [],la [],cp 9 tt [] [.tmp 3] xz (fun x=>x.1.1)⟩
theorem qkc:CtxM Try.prog qkd:=lm fits bi m0
abbrev qu:Mdl:=(a9 (.cons (.d false qT0) (.cons (.rp false (.slice af.ty)) .nil)) [] [] 1 xz (B:=Int) (fun b=>((b,()),(()))) (fun a=>iz a.1.1 a.1.2.1))
theorem wi:MdlOK Try.prog 48 qu:=ll Try.func48 rfl qkc .z s0
def rh:Shp:=⟨[q7j],[qh9]⟩
abbrev jq:Ctx ((List ae)):=⟨77,tt,false,false,[],kd [(48,qu),(92,nc)],la [ay _ 77 [] qay (C:=((List af)×Bool×Int×Int×Int×(List (Int×(List ab)))×Nat×(List ab)×Int×(List (Int×(List ab)))×Int×Int)) (S:=(Bool×Int×(List ae))) (fun x=>((x.1.1.1,x.1.2.1,(pe5 x.1),(pe6 x.1),(pe7 x.1),(pe8 x.1),(pe9 x.1),(pe10 x.1),(pe11 x.1),x.2.1.1,x.2.1.2.1,x.2.1.2.2.1),((pe4 x.1),(pe12 x.1),x.2.2.1))) qax (CE:=((List af)×Bool×Int×Int×(List (Int×(List ab)))×Nat×(List (Int×(List ab)))×Int×Int)) (E:=(Bool×(List ae))) (fun c e=>(((c.1,()),c.2.1,(),(),e.1,c.2.2.1,(pe3 c),(pe4 c),(pe5 c),()),(((pe6 c),(pe7 c),(pf8 c),()),e.2,()))) (fun c=>(c.1,c.2.1,(pe3 c),(pe4 c),(pe5 c),(pe6 c),(pe9 c),(pe10 c),(pf11 c))) (fun{R} c a nx dn rt=>qb c.1 c.2.1 c.2.2.1 (pe3 c) (pe4 c) (pe5 c) (pe7 c) (pe8 c) (pe9 c) (pe10 c) (pf11 c) a.1 a.2.1 a.2.2 nx dn rt),uv _ 77 tt false [] (rc Try.f71 10647) qaz (C:=((List af)×Bool×Int×Int×(List (Int×(List ab)))×(List (Int×(List ab)))×Int×Int)) (S:=(Bool×(List ae))) (fun x=>((x.1.1.1,x.1.2.1,(pe5 x.1),(pe6 x.1),(pe7 x.1),x.2.1.1,x.2.1.2.1,x.2.1.2.2.1),((pe4 x.1),x.2.2.1))) (fun c a=>(((c.1,()),c.2.1,(),(),a.1,c.2.2.1,(pe3 c),(pe4 c),()),(((pe5 c),(pe6 c),(pf7 c),()),a.2,()))) (fun c=>(pe4 c)) (fun{R} c a en nx rt=>qc c.1 c.2.1 c.2.2.1 (pe3 c) (pe4 c) (pe5 c) (pe6 c) (pf7 c) a.1 a.2 en nx rt),qny _ 77 [] qa1 (C:=((List af)×Bool×Int×(List (Int×(List ab)))×Int×Int)) (S:=(Int×(List ae))) (fun x=>((x.1.1.1,x.1.2.1,(pe4 x.1),x.2.1.1,x.2.1.2.1,x.2.1.2.2.1),((pe5 x.1),x.2.2.1))) qa0 (CE:=Unit) (E:=(List ae)) (fun c e=>(((),()),(e,()))) (fun c=>()) (fun{R} c a nx dn rt=>qd c.1 c.2.1 c.2.2.1 (pe3 c) (pe4 c) (pf5 c) a.1 a.2 nx dn rt)],cp 77 tt [] [.tmp 6] rh (fun x=>x.2.1)⟩
theorem jp:CtxM Try.prog jq:=lm fits bi (mC wi (mC pb m0))
theorem qcd:az Try.prog jq 0 (lc 4 Try.f71 10168727):=lp rfl jp (.two .z (.two .z (.two (.one (.two .z (.two .z (.two .z (.two (.d [0,1,0,0,8,28,63,127,255] [8] []) (.two .z (.two (.d [0,0,0,6,14,0,63] [] []) .z))))))) .z))) s0 (fun c a=>(((c.1,()),c.2.1,(),(),a.1,c.2.2.1,(pe3 c),(pe4 c),(pe5 c),(pe6 c),(pe7 c),(pe8 c),a.2.1,()),(((pe9 c),(pe10 c),(pf11 c),()),a.2.2,()))) (fun y=>((y.1.1.1,y.1.2.1,(pe5 y.1),(pe6 y.1),(pe7 y.1),(pe8 y.1),y.2.1.1,y.2.1.2.1,y.2.1.2.2.1),((pe4 y.1),y.2.2.1)))
theorem qce:az Try.prog jq 1 ((rc Try.f71 10647).code):=rl qT0 (.slice ab.ty) rfl jp (.two .z (.s 0)) (sC qcd s0) 75 28 29 30 32 false rfl
theorem qcf:az Try.prog jq 2 (lc 0 Try.f71 151):=nl rfl jp (.two .z (.two .z (.two (.one (.two .z (.two (.s 1) .z))) .z))) (sC qce s0) (fun c a=>(((c.1,()),c.2.1,(),(),c.2.2.1,a.1,()),(((pe3 c),(pe4 c),(pf5 c),()),a.2,()))) (fun y=>((),y.2.1))
abbrev sy:Mdl:=(a9 (.cons (.agg (.cons (.dm false qT0 (.slice ab.ty)) (.cons (.d false qT0) (.cons (.d false qT0) .nil)))) (.cons (.fn 48 (.cons (.rp false (.slice af.ty)) .nil)) (.cons (.d false .bool) .nil))) [] [] 1 rh (B:=(List ae)) (fun b=>(((),()),(b,()))) (fun a=>t9 a.1.1.1 a.1.1.2.1 a.1.1.2.2.1 a.1.2.1.1 a.1.2.2.1))
theorem qa2:MdlOK Try.prog 71 sy:=ll Try.func71 rfl jp (.two .z (.two .z (.two .z (.two (.two .z (.s 2)) .z)))) (sC qcf s0)
def s5:Shp:=⟨[q7j],[qgf]⟩
abbrev oe:Ctx (qL1):=⟨93,tt,false,false,[],kd [(71,sy),(48,qu)],la [ay _ 93 [] qcr (C:=((List af)×(List ae)×Int×(List ab)×Int×(List (Int×(List ab)))×Int×Int×qL1)) (S:=(Int×Int×Int)) (fun x=>((x.1.1.1,x.1.2.2.1,(pe4 x.1),(pe6 x.1),(pe7 x.1),x.2.1.1,x.2.1.2.1,x.2.1.2.2.1,x.2.2.1),((pe8 x.1),(pe3 x).1,(pe3 x).2.1))) qcq (CE:=((List af)×(List ae)×(List (Int×(List ab)))×Int×Int×qL1)) (E:=(Int×Int)) (fun c e=>(((c.1,()),(),c.2.1,(),(),()),((c.2.2.1,(pe3 c),(pe4 c),()),(pf5 c),(e.1,e.2,()),()))) (fun c=>(c.1,c.2.1,(pe5 c),(pe6 c),(pe7 c),(pf8 c))) (fun{R} c a nx dn rt=>rk c.1 c.2.1 c.2.2.1 (pe3 c) (pe4 c) (pe5 c) (pe6 c) (pe7 c) (pf8 c) a.1 a.2.1 a.2.2 nx dn rt),ay _ 93 [] qct (C:=((List af)×(List ae)×(List (Int×(List ab)))×Int×Int)) (S:=(Int×qL1)) (fun x=>((x.1.1.1,x.1.2.2.1,x.2.1.1,x.2.1.2.1,x.2.1.2.2.1),((pe4 x.1),x.2.2.1))) qcs (CE:=Unit) (E:=qL1) (fun c e=>(((),()),(e,()))) (fun c=>()) (fun{R} c a nx dn rt=>rm c.1 c.2.1 c.2.2.1 (pe3 c) (pf4 c) a.1 a.2 nx dn rt)],cp 93 tt [] [.tmp 6] s5 (fun x=>x.2.1)⟩
theorem od:CtxM Try.prog oe:=lm fits bi (mC qa2 (mC wi m0))
theorem qeb:az Try.prog oe 0 (lc 2 Try.f43 19095):=lp rfl od (.two .z (.two .z (.two (.one (.two .z (.two .z (.two (.d [0,1,3,7,15,7,7,71,231,511,7,7,3079,7175,15367,32767,65535,131071,262143,524287,1048575,262143,262143,6553599,14942207,31719423,67108863,134217727,268435455,536870911,1073741823,2147483647,4294967295,8589934591,17179869183,8589934591,42949672959,137438953471,274877906943,549755813887] [] []) .z)))) .z))) s0 (fun c a=>(((c.1,()),(),c.2.1,(),c.2.2.1,(),(pe3 c),(pe4 c),a.1,()),(((pe5 c),(pe6 c),(pe7 c),()),(pf8 c),(a.2.1,a.2.2,()),()))) (fun y=>((y.1.1.1,y.1.2.2.1,y.2.1.1,y.2.1.2.1,y.2.1.2.2.1,y.2.2.1),((pe3 y).1,(pe3 y).2.1)))
theorem qec:az Try.prog oe 1 (lc 0 Try.f43 151):=lp rfl od (.two .z (.one (.two .z (.two (.two .z (.s 0)) .z)))) (sC qeb s0) (fun c a=>(((c.1,()),(),c.2.1,(),a.1,()),((c.2.2.1,(pe3 c),(pf4 c),()),a.2,()))) (fun y=>((),y.2.1))
abbrev ue:Mdl:=(a9 (.cons (.agg (.cons (.dm false qT0 (.slice ab.ty)) (.cons (.d false qT0) (.cons (.d false qT0) .nil)))) (.cons (.fn 48 (.cons (.rp false (.slice af.ty)) .nil)) (.cons (.d false .bool) .nil))) [] [] 1 s5 (B:=qL1) (fun b=>(((),()),(b,()))) (fun a=>kq a.1.1.1 a.1.1.2.1 a.1.1.2.2.1 a.1.2.1.1 a.1.2.2.1))
theorem qcu:MdlOK Try.prog 43 ue:=ll Try.func43 rfl od (.two .z (.two .z (.two .z (.two (.two .z (.s 1)) .z)))) (sC qec s0)
def z8:Shp:=⟨[q7j,qqc],[qgf]⟩
abbrev qoc:Ctx ((Int×qL1)):=⟨38,tt,false,false,[],kd [(41,sx),(42,ip),(47,p6),(43,ue)],la [],cp 38 tt [] [.tmp 8, .tmp 9] z8 (fun x=>(x.1.2.1,x.2.1))⟩
theorem qob:CtxM Try.prog qoc:=lm fits bi (mC uu (mC jv (mC uc (mC qcu m0))))
abbrev qca:Mdl:=(a9 (.cons (.agg (.cons (.d false qT0) (.cons (.d false (.slice ag.ty)) (.cons (.d false qT0) (.cons (.d false qT0) .nil))))) (.cons (.d false qT1) (.cons (.d false (.slice af.ty)) (.cons (.d false qT0) .nil)))) [] [] 2 z8 (B:=(Int×qL1)) (fun b=>(((),b.1,()),(b.2,()))) (fun a=>xk a.1.1.1 a.1.1.2.1 a.1.1.2.2.1 (pe3 a.1.1) a.1.2.1 a.1.2.2.1 (pe3 a.1)))
theorem qke:MdlOK Try.prog 13 qca:=ll Try.func13 rfl qob .z s0
def ro:Shp:=⟨[qjx],[]⟩
abbrev na:Ctx (Bool):=⟨54,tt,false,false,[],kd [],la [ay _ 54 [] qbi (C:=(Int×(List ab)×Int×(List (Int×(List ab)))×Int×Int)) (S:=(Int×(List (Int×Bool))×qL1)) (fun x=>((x.1.1,(pe4 x.1),(pe5 x.1),x.2.1.1,x.2.1.2.1,x.2.1.2.2.1),((pe6 x.1),x.2.2.1,(pe3 x)))) qbh (CE:=(Int×(List (Int×(List ab)))×Int×Int)) (E:=((List (Int×Bool))×qL1)) (fun c e=>((c.1,(),(),(),()),((c.2.1,c.2.2.1,c.2.2.2,()),e.1,e.2,()))) (fun c=>(c.1,(pe3 c),(pe4 c),(pf5 c))) (fun{R} c a nx dn rt=>dp c.1 c.2.1 c.2.2.1 (pe3 c) (pe4 c) (pf5 c) a.1 a.2.1 a.2.2 nx dn rt),ay _ 54 [] qbk (C:=(Int×(List (Int×(List ab)))×Int×Int)) (S:=((List (Int×Bool))×qL1)) (fun x=>((x.1.1,x.2.1.1,x.2.1.2.1,x.2.1.2.2.1),(x.2.2.1,(pe3 x)))) qbj (CE:=Unit) (E:=Unit) (fun c e=>((()),(()))) (fun c=>()) (fun{R} c a nx dn rt=>cu c.1 c.2.1 c.2.2.1 c.2.2.2 a.1 a.2 nx dn rt)],cp 54 tt [] [.tmp 4] ro (fun x=>x.1.1)⟩
theorem m9:CtxM Try.prog na:=lm fits bi m0
theorem qcv:az Try.prog na 0 (lc 2 Try.f52 9803):=lp rfl m9 .z s0 (fun c a=>((c.1,(),(),(),c.2.1,c.2.2.1,a.1,()),(((pe3 c),(pe4 c),(pf5 c),()),a.2.1,a.2.2,()))) (fun y=>((y.1.1,y.2.1.1,y.2.1.2.1,y.2.1.2.2.1),(y.2.2.1,(pe3 y))))
theorem qcw:az Try.prog na 1 (lc 0 Try.f52 75):=lp rfl m9 (.two .z (.two (.one (.two (.two (.d [0,1,3,0,8,31] [] []) .z) (.two (.d [0,1,0,4,12,31,63,0] [] []) (.s 0)))) .z)) (sC qcv s0) (fun c a=>((c.1,(),(),(),()),((c.2.1,c.2.2.1,c.2.2.2,()),a.1,a.2,()))) (fun y=>((),()))
abbrev s6:Mdl:=(a9 (.cons (.agg (.cons (.dm false qT0 (.slice ab.ty)) (.cons (.d false qT0) (.cons (.d false qT0) .nil)))) (.cons (.d false qT0) .nil)) [] [] 1 ro (B:=Bool) (fun b=>((b,()),(()))) (fun a=>g8 a.1.1.1 a.1.1.2.1 a.1.1.2.2.1 a.1.2.1))
theorem qbl:MdlOK Try.prog 52 s6:=ll Try.func52 rfl m9 (.two .z (.two .z (.two (.two .z (.s 1)) .z))) (sC qcw s0)
def qgs:Shp:=⟨[q9x,qqc],[qgf]⟩
abbrev qi8:Ctx ((Int×qL1)):=⟨50,tt,false,false,[],kd [(50,pp),(51,ut),(42,ip),(52,s6)],la [ay _ 50 [] qqv (C:=(Int×(List (Int×(List ab)))×Int×Int)) (S:=(Int×qL1)) (fun x=>((x.1.2.2.1,x.2.1.1,x.2.1.2.1,x.2.1.2.2.1),((pe3 x.1),x.2.2.1))) qqu (CE:=Unit) (E:=qL1) (fun c e=>(((),()),(e,()))) (fun c=>()) (fun{R} c a nx dn rt=>qfa c.1 c.2.1 c.2.2.1 c.2.2.2 a.1 a.2 nx dn rt)],cp 50 tt [] [.tmp 6, .tmp 7] qgs (fun x=>(x.1.2.1,x.2.1))⟩
theorem qi6:CtxM Try.prog qi8:=lm fits bi (mC oz (mC y5 (mC jv (mC qbl m0))))
theorem qty:az Try.prog qi8 0 (lc 0 Try.f15 1215):=lp rfl qi6 .z s0 (fun c a=>(((),(),c.1,a.1,()),((c.2.1,c.2.2.1,c.2.2.2,()),a.2,()))) (fun y=>((),y.2.1))
abbrev qi7:Mdl:=(a9 (.cons (.agg (.cons (.d false qT0) (.cons (.d false (.slice ag.ty)) (.cons (.d false qT0) (.cons (.d false qT0) .nil))))) (.cons (.d false qT1) (.cons (.d false qT0) .nil))) [] [] 2 qgs (B:=(Int×qL1)) (fun b=>(((),b.1,()),(b.2,()))) (fun a=>qd3 a.1.1.1 a.1.1.2.1 a.1.1.2.2.1 (pe3 a.1.1) a.1.2.1 a.1.2.2.1))
theorem qqw:MdlOK Try.prog 15 qi7:=ll Try.func15 rfl qi6 (.two .z (.two .z (.two .z (.two .z (.two .z (.two .z (.two (.two .z (.s 0)) .z))))))) (sC qty s0)
def qis:Shp:=⟨[qjx],[]⟩
abbrev qy2:Ctx (Bool):=⟨71,tt,false,false,[],kd [(18,y4),(13,qca),(15,qi7),(17,oh)],la [],cp 71 tt [] [.tmp 0] qis (fun x=>x.1.1)⟩
theorem qy1:CtxM Try.prog qy2:=lm fits bi (mC qgt (mC qke (mC qqw (mC rz m0))))
abbrev qlr:Mdl:=(a9 .nil [] [] 1 qis (B:=Bool) (fun b=>((b,()),(()))) (fun a=>zw))
theorem qsz:MdlOK Try.prog 9 qlr:=ll Try.func9 rfl qy1 .z s0
def qit:Shp:=⟨[qjx],[]⟩
abbrev qy4:Ctx (Bool):=⟨19,tt,false,false,[],kd [],la [],cp 19 tt [] [.tmp 2] qit (fun x=>x.1.1)⟩
theorem qy3:CtxM Try.prog qy4:=lm fits bi m0
abbrev qls:Mdl:=(a9 (.cons (.d false ag.ty) .nil) [] [] 1 qit (B:=Bool) (fun b=>((b,()),(()))) (fun a=>zx a.1.1))
theorem qs1:MdlOK Try.prog 40 qls:=ll Try.func40 rfl qy3 .z s0
def gq:Shp:=⟨[qvc],[]⟩
abbrev ib:Ctx (Int):=⟨19,tt,false,false,[],kd [(40,qls)],la [ay _ 19 [] nk (C:=((List ag)×Int)) (S:=Int) (fun x=>((x.1.1,x.1.2.2.1),(pe3 x.1))) nj (CE:=Unit) (E:=Unit) (fun c e=>((()),(()))) (fun c=>()) (fun{R} c a nx dn rt=>ch c.1 c.2 a nx dn rt)],cp 19 tt [] [.tmp 4] gq (fun x=>x.1.1)⟩
theorem g9:CtxM Try.prog ib:=lm fits bi (mC qs1 m0)
theorem nu:az Try.prog ib 0 (lc 0 Try.f70 37):=lp rfl g9 .z s0 (fun c a=>((c.1,(()),c.2,a,()),(()))) (fun y=>((),()))
abbrev ia:Mdl:=(a9 (.cons (.d false (.slice ag.ty)) (.cons (.fn 40 .nil) .nil)) [] [] 1 gq (B:=Int) (fun b=>((b,()),(()))) (fun a=>dy a.1.1))
theorem nm:MdlOK Try.prog 70 ia:=ll Try.func70 rfl g9 (.two .z (.two (.two .z (.s 0)) .z)) (sC nu s0)
def f5:Shp:=⟨[qjx],[]⟩
abbrev mq:Ctx (Bool):=⟨9,tt,false,false,[],kd [(70,ia)],la [],cp 9 tt [] [.tmp 4] f5 (fun x=>x.1.1)⟩
theorem mn:CtxM Try.prog mq:=lm fits bi (mC nm m0)
abbrev f9:Mdl:=(a9 (.cons (.d false (.slice ag.ty)) (.cons (.fn 40 .nil) .nil)) [] [] 1 f5 (B:=Bool) (fun b=>((b,()),(()))) (fun a=>cf a.1.1))
theorem lx:MdlOK Try.prog 39 f9:=ll Try.func39 rfl mn .z s0
def qpk:Shp:=⟨[qjx],[]⟩
abbrev q4g:Ctx (Bool):=⟨32,tt,false,false,[],kd [(39,f9)],la [],cp 32 tt [] [.tmp 6] qpk (fun x=>x.1.1)⟩
theorem q4f:CtxM Try.prog q4g:=lm fits bi (mC lx m0)
abbrev qs0:Mdl:=(a9 (.cons (.d false cz.ty) (.cons (.d false qT1) (.cons (.d false (.slice af.ty)) .nil))) [] [] 1 qpk (B:=Bool) (fun b=>((b,()),(()))) (fun a=>qhx a.1.1 a.1.2.1 a.1.2.2.1))
theorem qy5:MdlOK Try.prog 10 qs0:=ll Try.func10 rfl q4f .z s0
def qg6:Shp:=⟨[qjx],[]⟩
abbrev qvz:Ctx (Bool):=⟨17,tt,false,false,[],kd [],la [],cp 17 tt [] [.tmp 2] qg6 (fun x=>x.1.1)⟩
theorem qvy:CtxM Try.prog qvz:=lm fits bi m0
abbrev qjd:Mdl:=(a9 (.cons (.d false (.int .u8)) .nil) [] [] 1 qg6 (B:=Bool) (fun b=>((b,()),(()))) (fun a=>s9 a.1.1))
theorem qq3:MdlOK Try.prog 91 qjd:=ll Try.func91 rfl qvy .z s0
def qg5:Shp:=⟨[qjx],[]⟩
abbrev qjc:Ctx (Bool):=⟨52,tt,false,false,[],kd [(91,qjd)],la [ay _ 52 [] qq1 (C:=ByteArray) (S:=Int) (fun x=>(x.1.1,x.1.2.1)) qq0 (CE:=Unit) (E:=Unit) (fun c e=>((()),(()))) (fun c=>()) (fun{R} c a nx dn rt=>nt c a nx dn rt)],cp 52 tt [] [.tmp 2] qg5 (fun x=>x.1.1)⟩
theorem qja:CtxM Try.prog qjc:=lm fits bi (mC qq3 m0)
theorem qt6:az Try.prog qjc 0 (lc 0 Try.f67 75):=lp rfl qja .z s0 (fun c a=>((c,a,()),(()))) (fun y=>((),()))
abbrev qjb:Mdl:=(a9 (.cons (.d false .str) .nil) [] [] 1 qg5 (B:=Bool) (fun b=>((b,()),(()))) (fun a=>yh a.1.1))
theorem qq2:MdlOK Try.prog 67 qjb:=ll Try.func67 rfl qja (.two .z (.two .z (.two (.two .z (.s 0)) .z))) (sC qt6 s0)
def qha:Shp:=⟨[qjx],[]⟩
abbrev qji:Ctx (Bool):=⟨41,tt,false,false,[],kd [],la [ay _ 41 [] qq6 (C:=(Int×qL1)) (S:=Int) (fun x=>((x.1.1,x.1.2.1),x.1.2.2.1)) qq5 (CE:=Unit) (E:=Unit) (fun c e=>((()),(()))) (fun c=>()) (fun{R} c a nx dn rt=>kj c.1 c.2 a nx dn rt)],cp 41 tt [] [.tmp 4] qha (fun x=>x.1.1)⟩
theorem qjg:CtxM Try.prog qji:=lm fits bi m0
theorem quc:az Try.prog qji 0 (lc 0 Try.f68 37):=lp rfl qjg (.two .z (.two (.one (.two (.d [0,0,3,7,15,31,63,63,255,511,63,2047,4095,8191,16383,32767,65535,131071,131071,393215,1048575,2097151,131071,131071,12713983,29491199,67108863,134217727,268435455] [] []) .z)) .z)) s0 (fun c a=>((c.1,c.2,a,()),(()))) (fun y=>((),()))
abbrev qjh:Mdl:=(a9 (.cons (.d false qT0) (.cons (.d false qT1) .nil)) [] [] 1 qha (B:=Bool) (fun b=>((b,()),(()))) (fun a=>ne a.1.1 a.1.2.1))
theorem qq7:MdlOK Try.prog 68 qjh:=ll Try.func68 rfl qjg (.two .z (.two (.two .z (.s 0)) .z)) (sC quc s0)
def qjf:Shp:=⟨[qjx],[]⟩
abbrev qmm:Ctx (Bool):=⟨80,tt,false,false,[],kd [(67,qjb),(68,qjh)],la [ay _ 80 [] qub (C:=(Int×(List ag)×Int×Int)) (S:=Int) (fun x=>((x.2.1.1,x.2.1.2.1,x.2.1.2.2.1,(pe3 x.2.1)),x.1.2.1)) qua (CE:=Unit) (E:=Unit) (fun c e=>((()),(()))) (fun c=>()) (fun{R} c a nx dn rt=>tc c.1 c.2.1 c.2.2.1 c.2.2.2 a nx dn rt)],cp 80 tt [] [.tmp 2] qjf (fun x=>x.1.1)⟩
theorem qml:CtxM Try.prog qmm:=lm fits bi (mC qq2 (mC qq7 m0))
theorem qv0:az Try.prog qmm 0 (lc 0 Try.f37 75):=lp rfl qml .z s0 (fun c a=>(((),a,()),((c.1,c.2.1,c.2.2.1,c.2.2.2,()),()))) (fun y=>((),()))
abbrev yi:Mdl:=(a9 (.cons (.d false cz.ty) .nil) [] [] 1 qjf (B:=Bool) (fun b=>((b,()),(()))) (fun a=>rq a.1.1))
theorem zb:MdlOK Try.prog 37 yi:=ll Try.func37 rfl qml (.two .z (.two .z (.two (.two .z (.s 0)) .z))) (sC qv0 s0)
def qff:Shp:=⟨[qjx],[]⟩
abbrev qg8:Ctx (Bool):=⟨29,tt,false,false,[],kd [],la [ay _ 29 [] qoi (C:=qL1) (S:=Int) (fun x=>(x.1.1,x.1.2.1)) qoh (CE:=Unit) (E:=Unit) (fun c e=>((()),(()))) (fun c=>()) (fun{R} c a nx dn rt=>pu c a nx dn rt)],cp 29 tt [] [.tmp 4] qff (fun x=>x.1.1)⟩
theorem qg7:CtxM Try.prog qg8:=lm fits bi m0
theorem qq4:az Try.prog qg8 0 (lc 0 Try.f65 75):=lp rfl qg7 .z s0 (fun c a=>((c,a,()),(()))) (fun y=>((),()))
abbrev pc:Mdl:=(a9 (.cons (.d false cz.ty) (.cons (.d false qT1) .nil)) [] [] 1 qff (B:=Bool) (fun b=>((b,()),(()))) (fun a=>lg a.1.1 a.1.2.1))
theorem pw:MdlOK Try.prog 65 pc:=ll Try.func65 rfl qg7 (.two .z (.two .z (.two (.two .z (.s 0)) .z))) (sC qq4 s0)
def qjr:Shp:=⟨[qjx],[]⟩
abbrev qmy:Ctx (Bool):=⟨52,tt,false,false,[],kd [],la [ay _ 52 [] qup (C:=((List af)×Int)) (S:=Int) (fun x=>((x.1.1,x.1.2.1),x.1.2.2.1)) qun (CE:=Unit) (E:=Unit) (fun c e=>((()),(()))) (fun c=>()) (fun{R} c a nx dn rt=>pd c.1 c.2 a nx dn rt)],cp 52 tt [] [.tmp 4] qjr (fun x=>x.1.1)⟩
theorem qmx:CtxM Try.prog qmy:=lm fits bi m0
theorem qwa:az Try.prog qmy 0 (lc 0 Try.f28 75):=lp rfl qmx .z s0 (fun c a=>((c.1,c.2,a,()),(()))) (fun y=>((),()))
abbrev qei:Mdl:=(a9 (.cons (.d false (.slice af.ty)) (.cons (.d false qT0) .nil)) [] [] 1 qjr (B:=Bool) (fun b=>((b,()),(()))) (fun a=>wu a.1.1 a.1.2.1))
theorem qhg:MdlOK Try.prog 28 qei:=ll Try.func28 rfl qmx (.two .z (.two .z (.two (.two .z (.s 0)) .z))) (sC qwa s0)
def qpv:Shp:=⟨[qjx],[]⟩
abbrev qt9:Ctx (Bool):=⟨32,tt,false,false,[],kd [],la [ay _ 32 [] qzx (C:=(qL1×Int×Int×(List ag)×Int×Int)) (S:=Int) (fun x=>((x.1.1,x.1.2.1,x.2.1.1,x.2.1.2.1,x.2.1.2.2.1,(pe3 x.2.1)),(pe3 x.1))) qzw (CE:=Unit) (E:=Unit) (fun c e=>((()),(()))) (fun c=>()) (fun{R} c a nx dn rt=>ta c.1 c.2.1 c.2.2.1 (pe3 c) (pe4 c) (pf5 c) a nx dn rt)],cp 32 tt [] [.tmp 6] qpv (fun x=>x.1.1)⟩
theorem qt7:CtxM Try.prog qt9:=lm fits bi m0
theorem q2m:az Try.prog qt9 0 (lc 0 Try.f93 37):=lp rfl qt7 .z s0 (fun c a=>((c.1,c.2.1,(),a,()),((c.2.2.1,(pe3 c),(pe4 c),(pf5 c),()),()))) (fun y=>((),()))
abbrev qt8:Mdl:=(a9 (.cons (.d false cz.ty) (.cons (.d false qT1) (.cons (.d false qT0) .nil))) [] [] 1 qpv (B:=Bool) (fun b=>((b,()),(()))) (fun a=>qh1 a.1.1 a.1.2.1 a.1.2.2.1))
theorem qzy:MdlOK Try.prog 93 qt8:=ll Try.func93 rfl qt7 (.two .z (.two (.two .z (.s 0)) .z)) (sC q2m s0)
def qjn:Shp:=⟨[q7j,(1, .d true .bool)],[qgf]⟩
abbrev qef:Ctx ((Bool×qL1)):=⟨58,tt,false,false,[],kd [(65,pc)],la [ay _ 58 [] quf (C:=(Int×(List ag)×Int×Int×ByteArray×qL1×qL1)) (S:=(Int×qL1)) (fun x=>((x.2.1.1,x.2.1.2.1,x.2.1.2.2.1,(pe3 x.2.1),(pe3 x).1,(pe3 x).2.1,(pe3 x).2.2.1),((pe3 x.1),x.2.2.1))) que (CE:=(Int×(List ag)×Int×Int×ByteArray×qL1×qL1)) (E:=qL1) (fun c e=>(((),(),(),()),((c.1,c.2.1,c.2.2.1,(pe3 c),()),e,((pe4 c),(pe5 c),(pf6 c),()),()))) (fun c=>(c.1,c.2.1,c.2.2.1,(pe3 c),(pe4 c),(pe5 c),(pf6 c))) (fun{R} c a nx dn rt=>td c.1 c.2.1 c.2.2.1 (pe3 c) (pe4 c) (pe5 c) (pf6 c) a.1 a.2 nx dn rt),ay _ 58 [] quh (C:=(Int×(List ag)×Int×Int×ByteArray×qL1×qL1)) (S:=(Int×qL1)) (fun x=>((x.2.1.1,x.2.1.2.1,x.2.1.2.2.1,(pe3 x.2.1),(pe3 x).1,(pe3 x).2.1,(pe3 x).2.2.1),((pe3 x.1),x.2.2.1))) qug (CE:=(Int×(List ag)×Int×Int)) (E:=qL1) (fun c e=>(((),(),()),((c.1,c.2.1,c.2.2.1,c.2.2.2,()),e,()))) (fun c=>(c.1,c.2.1,c.2.2.1,(pe3 c))) (fun{R} c a nx dn rt=>te c.1 c.2.1 c.2.2.1 (pe3 c) (pe4 c) (pe5 c) (pf6 c) a.1 a.2 nx dn rt)],cp 58 tt [] [.tmp 6, .tmp 7] qjn (fun x=>(x.1.2.1,x.2.1))⟩
theorem qee:CtxM Try.prog qef:=lm fits bi (mC pw m0)
theorem qv4:az Try.prog qef 1 (lc 2 Try.f94 303):=lp rfl qee .z s0 (fun c a=>(((),(),(),a.1,()),((c.1,c.2.1,c.2.2.1,(pe3 c),()),a.2,((pe4 c),(pe5 c),(pf6 c),()),()))) (fun y=>((y.2.1.1,y.2.1.2.1,y.2.1.2.2.1,(pe3 y.2.1)),y.2.2.1))
theorem qv3:az Try.prog qef 0 (lc 0 Try.f94 151):=lp rfl qee .z s0 (fun c a=>(((),(),(),a.1,()),((c.1,c.2.1,c.2.2.1,(pe3 c),()),a.2,((pe4 c),(pe5 c),(pf6 c),()),()))) (fun y=>((y.2.1.1,y.2.1.2.1,y.2.1.2.2.1,(pe3 y.2.1),(pe3 y).1,(pe3 y).2.1,(pe3 y).2.2.1),y.2.2.1))
abbrev qmr:Mdl:=(a9 (.cons (.d false cz.ty) (.cons (.d false qT1) (.cons (.d false qT0) .nil))) [] [] 2 qjn (B:=(Bool×qL1)) (fun b=>(((),b.1,()),(b.2,()))) (fun a=>qaf a.1.1 a.1.2.1 a.1.2.2.1))
theorem qui:MdlOK Try.prog 94 qmr:=ll Try.func94 rfl qee (.two .z (.two .z (.two .z (.two (.two .z (.s 0)) (.two (.two .z (.s 1)) .z))))) (sC qv3 (sC qv4 s0))
def x4:Shp:=⟨[qjx],[]⟩
abbrev zf:Ctx (Bool):=⟨26,tt,false,false,[],kd [],la [ay _ 26 [] qhe (C:=(qL1×qL1)) (S:=Int) (fun x=>((x.1.1,x.1.2.1),x.1.2.2.1)) qhd (CE:=Unit) (E:=Unit) (fun c e=>((()),(()))) (fun c=>()) (fun{R} c a nx dn rt=>iq c.1 c.2 a nx dn rt)],cp 26 tt [] [.tmp 4] x4 (fun x=>x.1.1)⟩
theorem zd:CtxM Try.prog zf:=lm fits bi m0
theorem qij:az Try.prog zf 0 (lc 0 Try.f95 75):=lp rfl zd (.two .z (.two (.one (.two (.d [0,0,3,7,0,0,48,112,255] [] []) .z)) .z)) s0 (fun c a=>((c.1,c.2,a,()),(()))) (fun y=>((),()))
abbrev ze:Mdl:=(a9 (.cons (.d false qT1) (.cons (.d false qT1) .nil)) [] [] 1 x4 (B:=Bool) (fun b=>((b,()),(()))) (fun a=>om a.1.1 a.1.2.1))
theorem qhf:MdlOK Try.prog 95 ze:=ll Try.func95 rfl zd (.two .z (.two .z (.two (.two .z (.s 0)) .z))) (sC qij s0)
def qmq:Shp:=⟨[qvc],[]⟩
abbrev qpx:Ctx (Int):=⟨21,tt,false,false,[],kd [(95,ze)],la [ay _ 21 [] qv2 (C:=(qL1×qL2×(List am)×Bool)) (S:=Int) (fun x=>((x.1.1,x.2.1.1,x.2.1.2.1,x.2.1.2.2.1),x.1.2.2.1)) qv1 (CE:=Unit) (E:=Unit) (fun c e=>((()),(()))) (fun c=>()) (fun{R} c a nx dn rt=>vp c.1 c.2.1 c.2.2.1 c.2.2.2 a nx dn rt)],cp 21 tt [] [.tmp 4] qmq (fun x=>x.1.1)⟩
theorem qpw:CtxM Try.prog qpx:=lm fits bi (mC qhf m0)
theorem qz1:az Try.prog qpx 0 (lc 0 Try.f73 37):=lp rfl qpw .z s0 (fun c a=>((c.1,(),a,()),((c.2.1,c.2.2.1,c.2.2.2,()),()))) (fun y=>((),()))
abbrev qhc:Mdl:=(a9 (.cons (.d false il.ty) (.cons (.d false qT1) .nil)) [] [] 1 qmq (B:=Int) (fun b=>((b,()),(()))) (fun a=>zc a.1.1 a.1.2.1))
theorem qjk:MdlOK Try.prog 73 qhc:=ll Try.func73 rfl qpw (.two .z (.two (.two .z (.s 0)) .z)) (sC qz1 s0)
def qfj:Shp:=⟨[(0, .d true il.ty),qqc],[]⟩
abbrev mf:Ctx ((il×Int)):=⟨113,tt,false,true,[],kd [(37,yi),(65,pc),(93,qt8),(94,qmr),(73,qhc)],la [yr _ 113 [] qoo (A:=(Int×Int×Int×Int×(List ag)×Int×Int×qL2×(List am)×Bool×Bool×qL2×(List am))) (fun x=>(x.1.1,(pe4 x.1),(pe5 x.1),x.2.1.1,x.2.1.2.1,x.2.1.2.2.1,(pe3 x.2.1),x.2.2.1.1,x.2.2.1.2.1,x.2.2.1.2.2.1,(pe3 x).2.2.1,(pe4 x),(pe5 x))) qon (CE:=(Int×Int×Int×(List ag)×Int×Int×qL2×(List am)×Bool×Bool×qL2×(List am))) (E:=Int) (fun c e=>((c.1,(),(),(),c.2.1,e,()),((c.2.2.1,(pe3 c),(pe4 c),(pe5 c),()),((pe6 c),(pe7 c),(pe8 c),()),((),(),(pe9 c),()),(pe10 c),(pf11 c),()))) (fun c=>(c.1,c.2.1,(pe3 c),(pe4 c),(pe5 c),(pe6 c),(pe7 c),(pe8 c),(pe9 c),(pe10 c),(pe11 c),(pf12 c))) (fun{R} c dn rt=>ig c.1 c.2.1 c.2.2.1 (pe3 c) (pe4 c) (pe5 c) (pe6 c) (pe7 c) (pe8 c) (pe9 c) (pe10 c) (pe11 c) (pf12 c) dn rt),yr _ 113 [] qoq (A:=(Int×Int×Int×qL1×Int×Bool×Int×(List ag)×Int×Int×qL2×(List am)×Bool×Bool×qL2×(List am))) (fun x=>(x.1.1,(pe4 x.1),(pe5 x.1),(pe6 x.1),(pe7 x.1),(pe8 x.1),x.2.1.1,x.2.1.2.1,x.2.1.2.2.1,(pe3 x.2.1),x.2.2.1.1,x.2.2.1.2.1,x.2.2.1.2.2.1,(pe3 x).2.2.1,(pe4 x),(pe5 x))) qop (CE:=(Int×Int×Int×Int×(List ag)×Int×Int×qL2×(List am)×Bool×Bool×(List am))) (E:=(Int×qL2)) (fun c e=>((c.1,(),(),(),c.2.1,c.2.2.1,e.1,()),(((pe3 c),(pe4 c),(pe5 c),(pe6 c),()),((pe7 c),(pe8 c),(pe9 c),()),((),(),(pe10 c),()),e.2,(pf11 c),()))) (fun c=>(c.1,c.2.1,c.2.2.1,(pe6 c),(pe7 c),(pe8 c),(pe9 c),(pe10 c),(pe11 c),(pe12 c),(pe13 c),(pf15 c))) (fun{R} c dn rt=>j3 c.1 c.2.1 c.2.2.1 (pe3 c) (pe4 c) (pe5 c) (pe6 c) (pe7 c) (pe8 c) (pe9 c) (pe10 c) (pe11 c) (pe12 c) (pe13 c) (pe14 c) (pf15 c) dn rt),yr _ 113 [] qos (A:=(Int×Int×Int×Int×Int×(List ag)×Int×Int×qL2×(List am)×Bool×Bool×qL2×(List am))) (fun x=>(x.1.1,(pe4 x.1),(pe5 x.1),(pe6 x.1),x.2.1.1,x.2.1.2.1,x.2.1.2.2.1,(pe3 x.2.1),x.2.2.1.1,x.2.2.1.2.1,x.2.2.1.2.2.1,(pe3 x).2.2.1,(pe4 x),(pe5 x))) qor (CE:=(Int×Int×Int×Int×(List ag)×Int×Int×qL2×(List am)×Bool×Bool×qL2)) (E:=(List am)) (fun c e=>((c.1,(),(),(),c.2.1,c.2.2.1,()),(((pe3 c),(pe4 c),(pe5 c),(pe6 c),()),((pe7 c),(pe8 c),(pe9 c),()),((),(),(pe10 c),()),(pf11 c),e,()))) (fun c=>(c.1,c.2.1,c.2.2.1,(pe4 c),(pe5 c),(pe6 c),(pe7 c),(pe8 c),(pe9 c),(pe10 c),(pe11 c),(pe12 c))) (fun{R} c dn rt=>me c.1 c.2.1 c.2.2.1 (pe3 c) (pe4 c) (pe5 c) (pe6 c) (pe7 c) (pe8 c) (pe9 c) (pe10 c) (pe11 c) (pe12 c) (pf13 c) dn rt),ay _ 113 [] qok (C:=(Int×Int×Int×(List ag)×Int×Int×qL2×(List am)×Bool)) (S:=(Int×Bool×qL2×(List am))) (fun x=>((x.1.1,(pe4 x.1),x.2.1.1,x.2.1.2.1,x.2.1.2.2.1,(pe3 x.2.1),x.2.2.1.1,x.2.2.1.2.1,x.2.2.1.2.2.1),((pe5 x.1),(pe3 x).2.2.1,(pe4 x),(pe5 x)))) qoj (CE:=(Int×Int×Int×(List ag)×Int×Int×qL2×(List am)×Bool)) (E:=(Bool×qL2×(List am))) (fun c e=>((c.1,(),(),(),c.2.1,()),((c.2.2.1,(pe3 c),(pe4 c),(pe5 c),()),((pe6 c),(pe7 c),(pf8 c),()),((),(),e.1,()),e.2.1,e.2.2,()))) (fun c=>(c.1,c.2.1,c.2.2.1,(pe3 c),(pe4 c),(pe5 c),(pe6 c),(pe7 c),(pf8 c))) (fun{R} c a nx dn rt=>fx c.1 c.2.1 c.2.2.1 (pe3 c) (pe4 c) (pe5 c) (pe6 c) (pe7 c) (pf8 c) a.1 a.2.1 a.2.2.1 a.2.2.2 nx dn rt),ay _ 113 [] qom (C:=(Int×Int×(List ag)×Int×Int×qL2×(List am)×Bool)) (S:=(Int×Bool×qL2×(List am))) (fun x=>((x.1.1,x.2.1.1,x.2.1.2.1,x.2.1.2.2.1,(pe3 x.2.1),x.2.2.1.1,x.2.2.1.2.1,x.2.2.1.2.2.1),((pe4 x.1),(pe3 x).2.2.1,(pe4 x),(pe5 x)))) qol (CE:=(qL2×(List am)×Bool)) (E:=(Bool×qL2×(List am))) (fun c e=>(((),(),()),((c.1,c.2.1,c.2.2,()),((),(),e.1,()),e.2.1,e.2.2,()))) (fun c=>((pe5 c),(pe6 c),(pf7 c))) (fun{R} c a nx dn rt=>j2 c.1 c.2.1 c.2.2.1 (pe3 c) (pe4 c) (pe5 c) (pe6 c) (pf7 c) a.1 a.2.1 a.2.2.1 a.2.2.2 nx dn rt)],cp 113 tt [] [.cell 6 87, .tmp 7] qfj (fun x=>(x.1.1,x.1.2.1))⟩
theorem mc:CtxM Try.prog mf:=lm fits bi (mC zb (mC pw (mC qzy (mC qui (mC qjk m0)))))
theorem qq9:az Try.prog mf 1 (jc Try.f72 14567727):=jn rfl mc .z s0 (fun c=>((c.1,(),(),(),c.2.1,c.2.2.1,(pe3 c),(pe4 c),(pe5 c),()),(((pe6 c),(pe7 c),(pe8 c),(pe9 c),()),((pe10 c),(pe11 c),(pe12 c),()),((),(),(pe13 c),()),(pe14 c),(pf15 c),()))) (fun y=>((y.1.1,(pe4 y.1),(pe5 y.1),y.2.1.1,y.2.1.2.1,y.2.1.2.2.1,(pe3 y.2.1),y.2.2.1.1,y.2.2.1.2.1,y.2.2.1.2.2.1,(pe3 y).2.2.1,(pe5 y)),((pe6 y.1),(pe4 y))))
theorem qra:az Try.prog mf 2 (jc Try.f72 16664879):=jn rfl mc .z s0 (fun c=>((c.1,(),(),(),c.2.1,c.2.2.1,(pe3 c),()),(((pe4 c),(pe5 c),(pe6 c),(pe7 c),()),((pe8 c),(pe9 c),(pe10 c),()),((),(),(pe11 c),()),(pe12 c),(pf13 c),()))) (fun y=>((y.1.1,(pe4 y.1),(pe5 y.1),y.2.1.1,y.2.1.2.1,y.2.1.2.2.1,(pe3 y.2.1),y.2.2.1.1,y.2.2.1.2.1,y.2.2.1.2.2.1,(pe3 y).2.2.1,(pe4 y)),(pe5 y)))
theorem qq8:az Try.prog mf 0 (jc Try.f72 117039):=jn rfl mc .z s0 (fun c=>((c.1,(),(),(),c.2.1,c.2.2.1,()),(((pe3 c),(pe4 c),(pe5 c),(pe6 c),()),((pe7 c),(pe8 c),(pe9 c),()),((),(),(pe10 c),()),(pe11 c),(pf12 c),()))) (fun y=>((y.1.1,(pe4 y.1),y.2.1.1,y.2.1.2.1,y.2.1.2.2.1,(pe3 y.2.1),y.2.2.1.1,y.2.2.1.2.1,y.2.2.1.2.2.1,(pe3 y).2.2.1,(pe4 y),(pe5 y)),(pe5 y.1)))
theorem qrb:az Try.prog mf 3 (lc 2 Try.f72 18735):=lp rfl mc (.two .z (.two (.one (.two (.two (.d [0,0,2,0,14,30,0,127,255] [] []) .z) (.two (.d [0,0,2,0,14,30,0,127,255,511,511,1023,4095] [] []) (.two .z (.two .z (.two (.two .z (.s 1)) (.two .z (.s 2)))))))) (.s 0))) (sC qq9 (sC qra (sC qq8 s0))) (fun c a=>((c.1,(),(),(),c.2.1,a.1,()),((c.2.2.1,(pe3 c),(pe4 c),(pe5 c),()),((pe6 c),(pe7 c),(pf8 c),()),((),(),a.2.1,()),a.2.2.1,a.2.2.2,()))) (fun y=>((y.1.1,(pe4 y.1),y.2.1.1,y.2.1.2.1,y.2.1.2.2.1,(pe3 y.2.1),y.2.2.1.1,y.2.2.1.2.1,y.2.2.1.2.2.1),((pe3 y).2.2.1,(pe4 y),(pe5 y))))
theorem qrc:az Try.prog mf 4 (lc 0 Try.f72 303):=lp rfl mc (.two .z (.two (.one (.two .z (.s 3))) .z)) (sC qrb s0) (fun c a=>((c.1,(),(),(),a.1,()),((c.2.1,c.2.2.1,(pe3 c),(pe4 c),()),((pe5 c),(pe6 c),(pf7 c),()),((),(),a.2.1,()),a.2.2.1,a.2.2.2,()))) (fun y=>((y.2.1.1,y.2.1.2.1,y.2.1.2.2.1),(y.2.2.1.2.2.1,(pe3 y),(pe4 y))))
abbrev qhb:Mdl:=(a9 (.cons (.d false cz.ty) (.cons (.d false qT1) (.cons (.d false qT0) .nil))) [] [] 2 qfj (B:=(il×Int)) (fun b=>((b.1,b.2,()),(()))) (fun a=>vo a.1.1 a.1.2.1 a.1.2.2.1))
theorem qot:MdlOK Try.prog 72 qhb:=ll Try.func72 rfl mc (.two .z (.two .z (.two .z (.two .z (.two (.two .z (.s 4)) .z))))) (sC qrc s0)
def qpz:Shp:=⟨[q9x],[qgf]⟩
abbrev qul:Ctx (qL1):=⟨22,tt,false,false,[],kd [],la [ay _ 22 [] qz3 (C:=(Int×Int×(List ag)×Int×Int)) (S:=(Int×qL1)) (fun x=>((x.1.1,x.2.1.1,x.2.1.2.1,x.2.1.2.2.1,(pe3 x.2.1)),((pe3 x.1),x.2.2.1))) qz2 (CE:=Unit) (E:=qL1) (fun c e=>(((),()),(e,()))) (fun c=>()) (fun{R} c a nx dn rt=>tf c.1 c.2.1 c.2.2.1 (pe3 c) (pf4 c) a.1 a.2 nx dn rt)],cp 22 tt [] [.tmp 4] qpz (fun x=>x.2.1)⟩
theorem quj:CtxM Try.prog qul:=lm fits bi m0
theorem q2n:az Try.prog qul 0 (lc 0 Try.f69 75):=lp rfl quj .z s0 (fun c a=>((c.1,(),(),a.1,()),((c.2.1,c.2.2.1,(pe3 c),(pf4 c),()),a.2,()))) (fun y=>((),y.2.1))
abbrev quk:Mdl:=(a9 (.cons (.d false cz.ty) (.cons (.d false qT0) .nil)) [] [] 1 qpz (B:=qL1) (fun b=>(((),()),(b,()))) (fun a=>qou a.1.1 a.1.2.1))
theorem qz4:MdlOK Try.prog 69 quk:=ll Try.func69 rfl quj (.two .z (.two .z (.two (.two .z (.s 0)) .z))) (sC q2n s0)
def qjj:Shp:=⟨[q9x],[qgf]⟩
abbrev qz0:Ctx (qL1):=⟨7,tt,false,false,[],kd [(69,quk)],la [],cp 7 tt [] [.tmp 2] qjj (fun x=>x.2.1)⟩
theorem qzz:CtxM Try.prog qz0:=lm fits bi (mC qz4 m0)
abbrev qmo:Mdl:=(a9 (.cons (.d false cz.ty) .nil) [] [] 1 qjj (B:=qL1) (fun b=>(((),()),(b,()))) (fun a=>qae a.1.1))
theorem qud:MdlOK Try.prog 38 qmo:=ll Try.func38 rfl qzz .z s0
def qc2:Shp:=⟨[q7j],[q0v]⟩
abbrev xr:Ctx ((List Bool)):=⟨58,tt,false,false,[],kd [],la [ay _ 58 [] qm0 (C:=(Int×qL2×(List am)×Bool)) (S:=(Bool×Int×(List Bool))) (fun x=>((x.1.1,x.2.1.1,x.2.1.2.1,x.2.1.2.2.1),((pe3 x.1),(pe4 x.1),x.2.2.1))) qmz (CE:=(Int×qL2×(List am)×Bool)) (E:=(Bool×(List Bool))) (fun c e=>((c.1,(),(),e.1,()),((c.2.1,c.2.2.1,c.2.2.2,()),e.2,()))) (fun c=>(c.1,c.2.1,c.2.2.1,c.2.2.2)) (fun{R} c a nx dn rt=>gh c.1 c.2.1 c.2.2.1 c.2.2.2 a.1 a.2.1 a.2.2 nx dn rt),ay _ 58 [] qm2 (C:=(Int×qL2×(List am)×Bool)) (S:=(List Bool)) (fun x=>((x.1.1,x.2.1.1,x.2.1.2.1,x.2.1.2.2.1),x.2.2.1)) qm1 (CE:=Unit) (E:=Unit) (fun c e=>((()),(()))) (fun c=>()) (fun{R} c a nx dn rt=>fa c.1 c.2.1 c.2.2.1 c.2.2.2 a nx dn rt)],cp 58 tt [] [.tmp 6] qc2 (fun x=>x.2.1)⟩
theorem xp:CtxM Try.prog xr:=lm fits bi m0
theorem qox:az Try.prog xr 0 (lc 2 Try.f54 2375):=lp rfl xp .z s0 (fun c a=>((c.1,(),(),a.1,a.2.1,()),((c.2.1,c.2.2.1,c.2.2.2,()),a.2.2,()))) (fun y=>((y.1.1,y.2.1.1,y.2.1.2.1,y.2.1.2.2.1),((pe3 y.1),y.2.2.1)))
theorem qoy:az Try.prog xr 1 (lc 0 Try.f54 39):=lp rfl xp (.one (.two .z (.two (.two .z (.s 0)) .z))) (sC qox s0) (fun c a=>((c.1,(),(),()),((c.2.1,c.2.2.1,c.2.2.2,()),a,()))) (fun y=>((),()))
abbrev xq:Mdl:=(a9 (.cons (.d false il.ty) (.cons (.d false qT0) (.cons (.d false qT0) .nil))) [] [] 1 qc2 (B:=(List Bool)) (fun b=>(((),()),(b,()))) (fun a=>ir a.1.1 a.1.2.1 a.1.2.2.1))
theorem qan:MdlOK Try.prog 54 xq:=ll Try.func54 rfl xp (.two .z (.two .z (.two .z (.s 1)))) (sC qoy s0)
def qmt:Shp:=⟨[(0, .d true bh.ty),qqc],[]⟩
abbrev q2r:Ctx ((bh×Int)):=⟨64,tt,false,false,[],kd [(37,yi),(65,pc),(28,qei),(72,qhb),(38,qmo),(73,qhc),(54,xq)],la [],cp 64 tt [] [.cell 8 90, .tmp 9] qmt (fun x=>(x.1.1,x.1.2.1))⟩
theorem q2q:CtxM Try.prog q2r:=lm fits bi (mC zb (mC pw (mC qhg (mC qot (mC qud (mC qjk (mC qan m0)))))))
abbrev qp1:Mdl:=(a9 (.cons (.d false cz.ty) (.cons (.d false qT1) (.cons (.d false (.slice af.ty)) (.cons (.d false qT0) .nil)))) [] [] 2 qmt (B:=(bh×Int)) (fun b=>((b.1,b.2,()),(()))) (fun a=>ce a.1.1 a.1.2.1 a.1.2.2.1 (pe3 a.1)))
theorem qv6:MdlOK Try.prog 45 qp1:=ll Try.func45 rfl q2q (.two .z (.two .z (.two .z (.two .z (.two .z (.two (.d [0,0,2,7,15] [] []) (.two (.d [0,0,0,0,12,31,0,127] [7] []) .z))))))) s0
def qm3:Shp:=⟨[qvc],[]⟩
abbrev q2t:Ctx (Int):=⟨10,tt,false,false,[],kd [],la [],cp 10 tt [] [.tmp 4] qm3 (fun x=>x.1.1)⟩
theorem q2s:CtxM Try.prog q2t:=lm fits bi m0
abbrev qp5:Mdl:=(a9 (.cons (.d false af.ty) (.cons (.d false .bool) .nil)) [] [] 1 qm3 (B:=Int) (fun b=>((b,()),(()))) (fun a=>qy a.1.1 a.1.2.1))
theorem qwd:MdlOK Try.prog 74 qp5:=ll Try.func74 rfl q2s .z s0
def qhh:Shp:=⟨[qjx],[]⟩
abbrev qwc:Ctx (Bool):=⟨34,tt,false,false,[],kd [],la [],cp 34 tt [] [.tmp 6] qhh (fun x=>x.1.1)⟩
theorem qwb:CtxM Try.prog qwc:=lm fits bi m0
abbrev qjs:Mdl:=(a9 (.cons (.d false af.ty) (.cons (.d false af.ty) (.cons (.d false .bool) .nil))) [] [] 1 qhh (B:=Bool) (fun b=>((b,()),(()))) (fun a=>qej a.1.1 a.1.2.1 a.1.2.2.1))
theorem qrd:MdlOK Try.prog 88 qjs:=ll Try.func88 rfl qwb .z s0
def rx:Shp:=⟨[q7j],[q4a]⟩
abbrev nh:Ctx ((List af)):=⟨81,tt,false,false,[],kd [(74,qp5),(88,qjs)],la [ay _ 81 [] qbn (C:=((List af)×Bool×qL2×(List am)×Bool×Int×(List Bool))) (S:=(Bool×Int×(List af))) (fun x=>((x.1.1,x.1.2.1,x.2.1.1,x.2.1.2.1,x.2.1.2.2.1,(pe3 x.2.1),(pe4 x.2.1)),((pe4 x.1),(pe5 x.1),x.2.2.1))) qbm (CE:=((List af)×Bool×qL2×(List am)×Bool×Int×(List Bool))) (E:=(Bool×(List af))) (fun c e=>((c.1,c.2.1,(),(),e.1,()),((c.2.2.1,(pe3 c),(pe4 c),(pe5 c),(pf6 c),()),e.2,()))) (fun c=>(c.1,c.2.1,c.2.2.1,(pe3 c),(pe4 c),(pe5 c),(pf6 c))) (fun{R} c a nx dn rt=>dq c.1 c.2.1 c.2.2.1 (pe3 c) (pe4 c) (pe5 c) (pf6 c) a.1 a.2.1 a.2.2 nx dn rt),ay _ 81 [] qbp (C:=((List af)×Bool×qL2×(List am)×Bool×Int×(List Bool))) (S:=(List af)) (fun x=>((x.1.1,x.1.2.1,x.2.1.1,x.2.1.2.1,x.2.1.2.2.1,(pe3 x.2.1),(pe4 x.2.1)),x.2.2.1)) qbo (CE:=Unit) (E:=Unit) (fun c e=>((()),(()))) (fun c=>()) (fun{R} c a nx dn rt=>dr c.1 c.2.1 c.2.2.1 (pe3 c) (pe4 c) (pe5 c) (pf6 c) a nx dn rt)],cp 81 tt [] [.tmp 6] rx (fun x=>x.2.1)⟩
theorem ng:CtxM Try.prog nh:=lm fits bi (mC qwd (mC qrd m0))
theorem qcz:az Try.prog nh 0 (lc 2 Try.f63 2375):=lp rfl ng (.two .z (.two (.one (.two .z (.two .z (.two (.d [0,0,2,7,15,31,0,0,128,448,960,0,4032,8191,0,0,32768,114688,245760,507904,1032192,2097151,0,8388607] [23] []) (.two (.d [0,0,0,4,14,30,0,127] [] []) .z))))) .z)) s0 (fun c a=>((c.1,c.2.1,(),(),a.1,a.2.1,()),((c.2.2.1,(pe3 c),(pe4 c),(pe5 c),(pf6 c),()),a.2.2,()))) (fun y=>((y.1.1,y.1.2.1,y.2.1.1,y.2.1.2.1,y.2.1.2.2.1,(pe3 y.2.1),(pe4 y.2.1)),((pe4 y.1),y.2.2.1)))
theorem qc0:az Try.prog nh 1 (lc 0 Try.f63 39):=lp rfl ng (.one (.two .z (.two (.two .z (.s 0)) .z))) (sC qcz s0) (fun c a=>((c.1,c.2.1,(),(),()),((c.2.2.1,(pe3 c),(pe4 c),(pe5 c),(pf6 c),()),a,()))) (fun y=>((),()))
abbrev th:Mdl:=(a9 (.cons (.d false bh.ty) (.cons (.d false (.slice af.ty)) (.cons (.d false .bool) .nil))) [] [] 1 rx (B:=(List af)) (fun b=>(((),()),(b,()))) (fun a=>cx a.1.1 a.1.2.1 a.1.2.2.1))
theorem qbq:MdlOK Try.prog 63 th:=ll Try.func63 rfl ng (.two .z (.two .z (.two .z (.s 1)))) (sC qc0 s0)
def wn:Shp:=⟨[qjx],[]⟩
abbrev qio:Ctx (Bool):=⟨11,tt,false,false,[],kd [],la [],cp 11 tt [] [.tmp 4] wn (fun x=>x.1.1)⟩
theorem qin:CtxM Try.prog qio:=lm fits bi m0
abbrev x5:Mdl:=(a9 (.cons (.d false bh.ty) (.cons (.d false am.ty) .nil)) [] [] 1 wn (B:=Bool) (fun b=>((b,()),(()))) (fun a=>fo a.1.1 a.1.2.1))
theorem qf1:MdlOK Try.prog 76 x5:=ll Try.func76 rfl qin .z s0
def zg:Shp:=⟨[qjx],[]⟩
abbrev qai:Ctx (Bool):=⟨49,tt,false,false,[],kd [(76,x5),(54,xq)],la [ay _ 49 [] qil (C:=((List af)×qL2×(List am)×Bool×Int×(List Bool))) (S:=Int) (fun x=>((x.1.1,x.2.1.1,x.2.1.2.1,x.2.1.2.2.1,(pe3 x.2.1),(pe4 x.2.1)),x.1.2.2.1)) qik (CE:=Unit) (E:=Unit) (fun c e=>((()),(()))) (fun c=>()) (fun{R} c a nx dn rt=>au c.1 c.2.1 c.2.2.1 (pe3 c) (pe4 c) (pf5 c) a nx dn rt)],cp 49 tt [] [.tmp 4] zg (fun x=>x.1.1)⟩
theorem qag:CtxM Try.prog qai:=lm fits bi (mC qf1 (mC qan m0))
theorem qko:az Try.prog qai 0 (lc 0 Try.f49 37):=lp rfl qag (.two .z (.two (.one (.two .z (.two .z (.two .z (.two (.d [0,0,2,7,15,31,63,127,255,511,255,1279,4095,255,8447,32767,65535,131071] [] []) .z))))) .z)) s0 (fun c a=>((c.1,(),a,()),((c.2.1,c.2.2.1,(pe3 c),(pe4 c),(pf5 c),()),()))) (fun y=>((),()))
abbrev qah:Mdl:=(a9 (.cons (.d false bh.ty) (.cons (.d false (.slice af.ty)) .nil)) [] [] 1 zg (B:=Bool) (fun b=>((b,()),(()))) (fun a=>ed a.1.1 a.1.2.1))
theorem qim:MdlOK Try.prog 49 qah:=ll Try.func49 rfl qag (.two .z (.two (.two .z (.s 0)) .z)) (sC qko s0)
def qmv:Shp:=⟨[q9x],[qrx]⟩
abbrev qp4:Ctx ((List af)):=⟨15,tt,false,false,[],kd [],la [ay _ 15 [] qv8 (C:=Int) (S:=(Int×(List af))) (fun x=>(x.1.1,(x.1.2.2.1,x.2.1))) qv7 (CE:=Unit) (E:=(List af)) (fun c e=>(((),()),(e,()))) (fun c=>()) (fun{R} c a nx dn rt=>qjo c a.1 a.2 nx dn rt)],cp 15 tt [] [.tmp 2] qmv (fun x=>x.2.1)⟩
theorem qp2:CtxM Try.prog qp4:=lm fits bi m0
theorem qz6:az Try.prog qp4 0 (lc 0 Try.f53 75):=lp rfl qp2 .z s0 (fun c a=>((c,(),a.1,()),(a.2,()))) (fun y=>((),y.2.1))
abbrev qp3:Mdl:=(a9 (.cons (.d false qT0) .nil) [] [] 1 qmv (B:=(List af)) (fun b=>(((),()),(b,()))) (fun a=>qeh a.1.1))
theorem qv9:MdlOK Try.prog 53 qp3:=ll Try.func53 rfl qp2 (.two .z (.two .z (.two (.two .z (.s 0)) .z))) (sC qz6 s0)
def wh:Shp:=⟨[q7p,qqc],[]⟩
abbrev qih:Ctx ((af×Int)):=⟨37,tt,false,false,[],kd [(41,sx),(42,ip),(55,ld)],la [],cp 37 tt [] [.cell 8 40, .tmp 9] wh (fun x=>(x.1.1,x.1.2.1))⟩
theorem qig:CtxM Try.prog qih:=lm fits bi (mC uu (mC jv (mC o9 m0)))
abbrev ly:Mdl:=(a9 (.cons (.d false cz.ty) (.cons (.d false qT1) (.cons (.d false (.slice af.ty)) (.cons (.d false qT0) .nil)))) [] [] 2 wh (B:=(af×Int)) (fun b=>((b.1,b.2,()),(()))) (fun a=>cj a.1.1 a.1.2.1 a.1.2.2.1 (pe3 a.1)))
theorem n9:MdlOK Try.prog 18 ly:=ll Try.func18 rfl qig .z s0
def qgr:Shp:=⟨[qvc,qqc],[]⟩
abbrev qvu:Ctx ((Int×Int)):=⟨63,tt,false,false,[],kd [(21,ss),(62,za),(18,ly)],la [],cp 63 tt [] [.tmp 10, .tmp 11] qgr (fun x=>(x.1.1,x.1.2.1))⟩
theorem qvt:CtxM Try.prog qvu:=lm fits bi (mC us (mC qcy (mC n9 m0)))
abbrev qi5:Mdl:=(a9 (.cons (.d false cz.ty) (.cons (.d false qT1) (.cons (.d false (.slice af.ty)) (.cons (.d false qT0) (.cons (.d false qT0) .nil))))) [] [] 2 qgr (B:=(Int×Int)) (fun b=>((b.1,b.2,()),(()))) (fun a=>yg a.1.1 a.1.2.1 a.1.2.2.1 (pe3 a.1) (pe4 a.1)))
theorem qqt:MdlOK Try.prog 27 qi5:=ll Try.func27 rfl qvt .z s0
def qal:Shp:=⟨[q7p,qqc],[]⟩
abbrev qow:Ctx ((af×Int)):=⟨45,tt,false,false,[],kd [(45,qp1),(63,th),(49,qah)],la [],cp 45 tt [] [.cell 8 40, .tmp 9] qal (fun x=>(x.1.1,x.1.2.1))⟩
theorem qov:CtxM Try.prog qow:=lm fits bi (mC qv6 (mC qbq (mC qim m0)))
abbrev px:Mdl:=(a9 (.cons (.d false cz.ty) (.cons (.d false qT1) (.cons (.d false (.slice af.ty)) (.cons (.d false qT0) .nil)))) [] [] 2 qal (B:=(af×Int)) (fun b=>((b.1,b.2,()),(()))) (fun a=>eb a.1.1 a.1.2.1 a.1.2.2.1 (pe3 a.1)))
theorem qx:MdlOK Try.prog 30 px:=ll Try.func30 rfl qov .z s0
def qk5:Shp:=⟨[(0, .d true (.int .u64)),(1, .d true (.int .u64))],[]⟩
abbrev q1a:Ctx ((Int×Int)):=⟨51,tt,false,false,[],kd [],la [],cp 51 tt [] [.tmp 4, .tmp 5] qk5 (fun x=>(x.1.1,x.1.2.1))⟩
theorem q09:CtxM Try.prog q1a:=lm fits bi m0
abbrev qpc:Mdl:=(a9 (.cons (.d false (.int .u64)) (.cons (.d false (.int .u64)) .nil)) [] [] 2 qk5 (B:=(Int×Int)) (fun b=>((b.1,b.2,()),(()))) (fun a=>qr7 a.1.1 a.1.2.1))
theorem qvf:MdlOK Try.prog 104 qpc:=ll Try.func104 rfl q09 .z s0
def qr8:Shp:=⟨[(0, .d true (.int .u64)),(1, .d true (.int .u64))],[]⟩
abbrev q73:Ctx ((Int×Int)):=⟨30,tt,false,false,[],kd [(104,qpc)],la [],cp 30 tt [] [.tmp 4, .tmp 5] qr8 (fun x=>(x.1.1,x.1.2.1))⟩
theorem q72:CtxM Try.prog q73:=lm fits bi (mC qvf m0)
abbrev qwu:Mdl:=(a9 (.cons (.d false (.int .u64)) (.cons (.d false (.int .u64)) .nil)) [] [] 2 qr8 (B:=(Int×Int)) (fun b=>((b.1,b.2,()),(()))) (fun a=>q08 a.1.1 a.1.2.1))
theorem q1b:MdlOK Try.prog 102 qwu:=ll Try.func102 rfl q72 .z s0
def i7:Shp:=⟨[q7j],[qrx]⟩
abbrev jh:Ctx ((List af)):=⟨48,tt,false,false,[],kd [(102,qwu)],la [ay _ 48 [] pg (C:=Unit) (S:=(Int×(List af))) (fun x=>((),(x.1.2.1,x.2.1))) pf (CE:=Unit) (E:=(List af)) (fun c e=>(((),()),(e,()))) (fun c=>()) (fun{R} c a nx dn rt=>iu a.1 a.2 nx dn rt)],cp 48 tt [] [.tmp 4] i7 (fun x=>x.2.1)⟩
theorem jf:CtxM Try.prog jh:=lm fits bi (mC q1b m0)
theorem p1:az Try.prog jh 0 (lc 0 Try.f89 575):=lp rfl jf (.two .z (.one (.d [0,0,0,6,0,0,48,126,255,511] [7,8,9] []))) s0 (fun c a=>(((),a.1,()),(a.2,()))) (fun y=>((),y.2.1))
abbrev jg:Mdl:=(a9 (.cons (.d false (.slice af.ty)) (.cons (.d false qT0) .nil)) [] [] 1 i7 (B:=(List af)) (fun b=>(((),()),(b,()))) (fun a=>fe a.1.1 a.1.2.1))
theorem ph:MdlOK Try.prog 89 jg:=ll Try.func89 rfl jf (.two .z (.two .z (.two .z (.two .z (.two .z (.two .z (.two (.s 0) .z))))))) (sC p1 s0)
def qg1:Shp:=⟨[q7j],[qrx]⟩
abbrev qvw:Ctx ((List af)):=⟨9,tt,false,false,[],kd [(89,jg)],la [],cp 9 tt [] [.tmp 2] qg1 (fun x=>x.2.1)⟩
theorem qvv:CtxM Try.prog qvw:=lm fits bi (mC ph m0)
abbrev qi9:Mdl:=(a9 (.cons (.d false cz.ty) .nil) [] [] 1 qg1 (B:=(List af)) (fun b=>(((),()),(b,()))) (fun a=>qed a.1.1))
theorem qqx:MdlOK Try.prog 64 qi9:=ll Try.func64 rfl qvv .z s0
def qfb:Shp:=⟨[q7p,qqc],[]⟩
abbrev qt0:Ctx ((af×Int)):=⟨20,tt,false,false,[],kd [(50,pp),(64,qi9),(18,ly)],la [],cp 20 tt [] [.cell 6 40, .tmp 7] qfb (fun x=>(x.1.1,x.1.2.1))⟩
theorem qtz:CtxM Try.prog qt0:=lm fits bi (mC oz (mC qqx (mC n9 m0)))
abbrev qgu:Mdl:=(a9 (.cons (.d false cz.ty) (.cons (.d false qT1) (.cons (.d false qT0) .nil))) [] [] 2 qfb (B:=(af×Int)) (fun b=>((b.1,b.2,()),(()))) (fun a=>vn a.1.1 a.1.2.1 a.1.2.2.1))
theorem qod:MdlOK Try.prog 31 qgu:=ll Try.func31 rfl qtz (.two .z (.two .z (.two (.d [0,0,0,4,0,31,63,63,255,511] [8] []) .z))) s0
def qjp:Shp:=⟨[q7p,qqc],[]⟩
abbrev qz8:Ctx ((af×Int)):=⟨18,tt,false,false,[],kd [(53,qp3),(30,px)],la [],cp 18 tt [] [.cell 6 40, .tmp 7] qjp (fun x=>(x.1.1,x.1.2.1))⟩
theorem qz7:CtxM Try.prog qz8:=lm fits bi (mC qv9 (mC qx m0))
abbrev qmw:Mdl:=(a9 (.cons (.d false cz.ty) (.cons (.d false qT1) (.cons (.d false qT0) .nil))) [] [] 2 qjp (B:=(af×Int)) (fun b=>((b.1,b.2,()),(()))) (fun a=>qam a.1.1 a.1.2.1 a.1.2.2.1))
theorem qum:MdlOK Try.prog 32 qmw:=ll Try.func32 rfl qz7 (.two .z (.two (.d [0,0,0,4,12,28,0,127,255,255,1023,2047] [10] []) .z)) s0
def qms:Shp:=⟨[qvc,qqc],[]⟩
abbrev q2p:Ctx ((Int×Int)):=⟨63,tt,false,false,[],kd [(37,yi),(65,pc),(28,qei),(30,px)],la [],cp 63 tt [] [.tmp 10, .tmp 11] qms (fun x=>(x.1.1,x.1.2.1))⟩
theorem q2o:CtxM Try.prog q2p:=lm fits bi (mC zb (mC pw (mC qhg (mC qx m0))))
abbrev qp0:Mdl:=(a9 (.cons (.d false cz.ty) (.cons (.d false qT1) (.cons (.d false (.slice af.ty)) (.cons (.d false qT0) (.cons (.d false qT0) .nil))))) [] [] 2 qms (B:=(Int×Int)) (fun b=>((b.1,b.2,()),(()))) (fun a=>qeg a.1.1 a.1.2.1 a.1.2.2.1 (pe3 a.1) (pe4 a.1)))
theorem qv5:MdlOK Try.prog 33 qp0:=ll Try.func33 rfl q2o .z s0
def t8:Shp:=⟨[qjx],[]⟩
abbrev wc:Ctx (Bool):=⟨114,tt,false,false,[],kd [(9,qlr),(10,qs0),(18,ly),(30,px),(31,qgu),(32,qmw),(27,qi5),(33,qp0)],la [yr _ 114 [] qdx (A:=(qL1×(List af)×Int×Int×Int×(List ag)×Int×Int)) (fun x=>(x.1.1,x.1.2.1,x.1.2.2.1,(pe3 x.1),x.2.1.1,x.2.1.2.1,x.2.1.2.2.1,(pe3 x.2.1))) qdw (CE:=Unit) (E:=Unit) (fun c e=>((()),(()))) (fun c=>()) (fun{R} c dn rt=>m7 c.1 c.2.1 c.2.2.1 (pe3 c) (pe4 c) (pe5 c) (pe6 c) (pf7 c) dn rt)],cp 114 tt [] [.tmp 10] t8 (fun x=>x.1.1)⟩
theorem wb:CtxM Try.prog wc:=lm fits bi (mC qsz (mC qy5 (mC n9 (mC qx (mC qod (mC qum (mC qqt (mC qv5 m0))))))))
theorem qfq:az Try.prog wc 0 (jc Try.f7 15):=jn rfl wb .z s0 (fun c=>((c.1,c.2.1,c.2.2.1,(pe3 c),(),()),(((pe4 c),(pe5 c),(pe6 c),(pf7 c),()),()))) (fun y=>((),()))
abbrev qgh:Mdl:=(a9 (.cons (.d true cz.ty) (.cons (.d true qT1) (.cons (.d true (.slice af.ty)) (.cons (.d true qT0) (.cons (.d true qT0) .nil))))) [] [] 1 t8 (B:=Bool) (fun b=>((b,()),(()))) (fun a=>p4 a.1.1 a.1.2.1 a.1.2.2.1 (pe3 a.1) (pe4 a.1)))
theorem qdy:MdlOK Try.prog 7 qgh:=ll Try.func7 rfl wb (.two .z (.two .z (.two .z (.s 0)))) (sC qfq s0)
end
end Go.Proofs.Ytokeielgplbdeaa
