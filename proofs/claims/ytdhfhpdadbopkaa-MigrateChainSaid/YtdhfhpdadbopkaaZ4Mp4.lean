/-
  The functions compute what their models say. Made by program (mg3.py) out of the translation.
-/
import Derived.Test.YtdhfhpdadbopkaaZ4Md
import Derived.Test.YtdhfhpdadbopkaaZ4Tt
import Derived.Test.YtdhfhpdadbopkaaZ4Ky
set_option linter.all false
set_option maxRecDepth 100000
namespace Go.Proofs.Ytdhfhpdadbopkaa
open Go.K Go.M
abbrev pe3{A0 A1 A2 A3 A4:Type}(x:A0×A1×A2×A3×A4):A3:=x.2.2.2.1
abbrev pe4{A0 A1 A2 A3 A4 A5:Type}(x:A0×A1×A2×A3×A4×A5):A4:=x.2.2.2.2.1
abbrev pe5{A0 A1 A2 A3 A4 A5 A6:Type}(x:A0×A1×A2×A3×A4×A5×A6):A5:=x.2.2.2.2.2.1
abbrev pe6{A0 A1 A2 A3 A4 A5 A6 A7:Type}(x:A0×A1×A2×A3×A4×A5×A6×A7):A6:=x.2.2.2.2.2.2.1
abbrev pe7{A0 A1 A2 A3 A4 A5 A6 A7 A8:Type}(x:A0×A1×A2×A3×A4×A5×A6×A7×A8):A7:=x.2.2.2.2.2.2.2.1
abbrev pe8{A0 A1 A2 A3 A4 A5 A6 A7 A8 A9:Type}(x:A0×A1×A2×A3×A4×A5×A6×A7×A8×A9):A8:=x.2.2.2.2.2.2.2.2.1
abbrev pe9{A0 A1 A2 A3 A4 A5 A6 A7 A8 A9 A10:Type}(x:A0×A1×A2×A3×A4×A5×A6×A7×A8×A9×A10):A9:=x.2.2.2.2.2.2.2.2.2.1
abbrev pe10{A0 A1 A2 A3 A4 A5 A6 A7 A8 A9 A10 A11:Type}(x:A0×A1×A2×A3×A4×A5×A6×A7×A8×A9×A10×A11):A10:=x.2.2.2.2.2.2.2.2.2.2.1
abbrev pe11{A0 A1 A2 A3 A4 A5 A6 A7 A8 A9 A10 A11 A12:Type}(x:A0×A1×A2×A3×A4×A5×A6×A7×A8×A9×A10×A11×A12):A11:=x.2.2.2.2.2.2.2.2.2.2.2.1
abbrev pe12{A0 A1 A2 A3 A4 A5 A6 A7 A8 A9 A10 A11 A12 A13:Type}(x:A0×A1×A2×A3×A4×A5×A6×A7×A8×A9×A10×A11×A12×A13):A12:=x.2.2.2.2.2.2.2.2.2.2.2.2.1
abbrev pe13{A0 A1 A2 A3 A4 A5 A6 A7 A8 A9 A10 A11 A12 A13 A14:Type}(x:A0×A1×A2×A3×A4×A5×A6×A7×A8×A9×A10×A11×A12×A13×A14):A13:=x.2.2.2.2.2.2.2.2.2.2.2.2.2.1
abbrev pe14{A0 A1 A2 A3 A4 A5 A6 A7 A8 A9 A10 A11 A12 A13 A14 A15:Type}(x:A0×A1×A2×A3×A4×A5×A6×A7×A8×A9×A10×A11×A12×A13×A14×A15):A14:=x.2.2.2.2.2.2.2.2.2.2.2.2.2.2.1
abbrev pe15{A0 A1 A2 A3 A4 A5 A6 A7 A8 A9 A10 A11 A12 A13 A14 A15 A16:Type}(x:A0×A1×A2×A3×A4×A5×A6×A7×A8×A9×A10×A11×A12×A13×A14×A15×A16):A15:=x.2.2.2.2.2.2.2.2.2.2.2.2.2.2.2.1
abbrev pe16{A0 A1 A2 A3 A4 A5 A6 A7 A8 A9 A10 A11 A12 A13 A14 A15 A16 A17:Type}(x:A0×A1×A2×A3×A4×A5×A6×A7×A8×A9×A10×A11×A12×A13×A14×A15×A16×A17):A16:=x.2.2.2.2.2.2.2.2.2.2.2.2.2.2.2.2.1
abbrev pe17{A0 A1 A2 A3 A4 A5 A6 A7 A8 A9 A10 A11 A12 A13 A14 A15 A16 A17 A18:Type}(x:A0×A1×A2×A3×A4×A5×A6×A7×A8×A9×A10×A11×A12×A13×A14×A15×A16×A17×A18):A17:=x.2.2.2.2.2.2.2.2.2.2.2.2.2.2.2.2.2.1
abbrev pe18{A0 A1 A2 A3 A4 A5 A6 A7 A8 A9 A10 A11 A12 A13 A14 A15 A16 A17 A18 A19:Type}(x:A0×A1×A2×A3×A4×A5×A6×A7×A8×A9×A10×A11×A12×A13×A14×A15×A16×A17×A18×A19):A18:=x.2.2.2.2.2.2.2.2.2.2.2.2.2.2.2.2.2.2.1
abbrev pe19{A0 A1 A2 A3 A4 A5 A6 A7 A8 A9 A10 A11 A12 A13 A14 A15 A16 A17 A18 A19 A20:Type}(x:A0×A1×A2×A3×A4×A5×A6×A7×A8×A9×A10×A11×A12×A13×A14×A15×A16×A17×A18×A19×A20):A19:=x.2.2.2.2.2.2.2.2.2.2.2.2.2.2.2.2.2.2.2.1
abbrev pf4{A0 A1 A2 A3 A4:Type}(x:A0×A1×A2×A3×A4):A4:=x.2.2.2.2
abbrev pf5{A0 A1 A2 A3 A4 A5:Type}(x:A0×A1×A2×A3×A4×A5):A5:=x.2.2.2.2.2
abbrev pf6{A0 A1 A2 A3 A4 A5 A6:Type}(x:A0×A1×A2×A3×A4×A5×A6):A6:=x.2.2.2.2.2.2
abbrev pf7{A0 A1 A2 A3 A4 A5 A6 A7:Type}(x:A0×A1×A2×A3×A4×A5×A6×A7):A7:=x.2.2.2.2.2.2.2
abbrev pf8{A0 A1 A2 A3 A4 A5 A6 A7 A8:Type}(x:A0×A1×A2×A3×A4×A5×A6×A7×A8):A8:=x.2.2.2.2.2.2.2.2
abbrev pf9{A0 A1 A2 A3 A4 A5 A6 A7 A8 A9:Type}(x:A0×A1×A2×A3×A4×A5×A6×A7×A8×A9):A9:=x.2.2.2.2.2.2.2.2.2
abbrev pf10{A0 A1 A2 A3 A4 A5 A6 A7 A8 A9 A10:Type}(x:A0×A1×A2×A3×A4×A5×A6×A7×A8×A9×A10):A10:=x.2.2.2.2.2.2.2.2.2.2
abbrev pf11{A0 A1 A2 A3 A4 A5 A6 A7 A8 A9 A10 A11:Type}(x:A0×A1×A2×A3×A4×A5×A6×A7×A8×A9×A10×A11):A11:=x.2.2.2.2.2.2.2.2.2.2.2
abbrev pf13{A0 A1 A2 A3 A4 A5 A6 A7 A8 A9 A10 A11 A12 A13:Type}(x:A0×A1×A2×A3×A4×A5×A6×A7×A8×A9×A10×A11×A12×A13):A13:=x.2.2.2.2.2.2.2.2.2.2.2.2.2
abbrev pf15{A0 A1 A2 A3 A4 A5 A6 A7 A8 A9 A10 A11 A12 A13 A14 A15:Type}(x:A0×A1×A2×A3×A4×A5×A6×A7×A8×A9×A10×A11×A12×A13×A14×A15):A15:=x.2.2.2.2.2.2.2.2.2.2.2.2.2.2.2
abbrev pf16{A0 A1 A2 A3 A4 A5 A6 A7 A8 A9 A10 A11 A12 A13 A14 A15 A16:Type}(x:A0×A1×A2×A3×A4×A5×A6×A7×A8×A9×A10×A11×A12×A13×A14×A15×A16):A16:=x.2.2.2.2.2.2.2.2.2.2.2.2.2.2.2.2
abbrev pf20{A0 A1 A2 A3 A4 A5 A6 A7 A8 A9 A10 A11 A12 A13 A14 A15 A16 A17 A18 A19 A20:Type}(x:A0×A1×A2×A3×A4×A5×A6×A7×A8×A9×A10×A11×A12×A13×A14×A15×A16×A17×A18×A19×A20):A20:=x.2.2.2.2.2.2.2.2.2.2.2.2.2.2.2.2.2.2.2.2
noncomputable section
def qk7:Shp:=⟨[(0, .d true a8.ty)],[]⟩
abbrev qon:Ctx (a8):=⟨51,tt,false,false,[],kf [],lf [aw _ 51 [] qtg (C:=(ByteArray×(List ByteArray)×Int×Int×(List ae)×Int×Int×Int×Int×Int)) (S:=(Int×(List ae))) (fun x=>((x.1.1,(pe3 x.1),(pe4 x.1),x.2.1.1,x.2.1.2.1,x.2.1.2.2.1,(pe3 x.2.1),x.2.2.1.1,x.2.2.1.2.2.1,(pe3 x.2.2.1)),((pe5 x.1),(pe3 x)))) qtf (CE:=(ByteArray×Int×(List ae)×Int×Int×Int×Int×Int)) (E:=(List ae)) (fun c e=>((c.1,(),(),()),((c.2.1,c.2.2.1,(pe3 c),(pe4 c),()),((pe5 c),(),(pe6 c),(pf7 c),()),e,()))) (fun c=>(c.1,(pe3 c),(pe4 c),(pe5 c),(pe6 c),(pe7 c),(pe8 c),(pf9 c))) (fun{R} c a nx dn rt=>qi0 c.1 c.2.1 c.2.2.1 (pe3 c) (pe4 c) (pe5 c) (pe6 c) (pe7 c) (pe8 c) (pf9 c) a.1 a.2 nx dn rt)],cd 51 tt [] [.cell 4 24] qk7 (fun x=>x.1.1)⟩
theorem qol:CtxM Try.prog qon:=lq fits mixed m0
theorem qwe:ba Try.prog qon 0 (lc 0 Try.f33 75):=lp rfl qol .z s0 (fun c a=>((c.1,(),(),c.2.1,c.2.2.1,a.1,()),(((pe3 c),(pe4 c),(pe5 c),(pe6 c),()),((pe7 c),(),(pe8 c),(pf9 c),()),a.2,()))) (fun y=>((y.1.1,y.2.1.1,y.2.1.2.1,y.2.1.2.2.1,(pe3 y.2.1),y.2.2.1.1,y.2.2.1.2.2.1,(pe3 y.2.2.1)),(pe3 y)))
abbrev qom:Mdl:=(ax (.cons (.d false .str) (.cons (.d false (.slice .str)) .nil)) [] [] 1 qk7 (B:=a8) (fun b=>((b,()),(()))) (fun a=>qjo a.1.1 a.1.2.1))
theorem qth:MdlOK Try.prog 33 qom:=li Try.func33 rfl qol (.two .z (.two .z (.two (.two .z (.s 0)) .z))) (sC qwe s0)
def qi6:Shp:=⟨[qkm],[]⟩
abbrev qwm:Ctx (Bool):=⟨17,tt,false,false,[],kf [],lf [],cd 17 tt [] [.tmp 2] qi6 (fun x=>x.1.1)⟩
theorem qwl:CtxM Try.prog qwm:=lq fits mixed m0
abbrev qea:Mdl:=(ax (.cons (.d false (.int .u8)) .nil) [] [] 1 qi6 (B:=Bool) (fun b=>((b,()),(()))) (fun a=>x5 a.1.1))
theorem qgz:MdlOK Try.prog 119 qea:=li Try.func119 rfl qwl .z s0
def qor:Shp:=⟨[qkm],[]⟩
abbrev q0j:Ctx (Bool):=⟨25,tt,false,false,[],kf [(119,qea)],lf [],cd 25 tt [] [.tmp 2] qor (fun x=>x.1.1)⟩
theorem q0i:CtxM Try.prog q0j:=lq fits mixed (mC qgz m0)
abbrev qsf:Mdl:=(ax (.cons (.d false (.int .u8)) .nil) [] [] 1 qor (B:=Bool) (fun b=>((b,()),(()))) (fun a=>qhw a.1.1))
theorem qwn:MdlOK Try.prog 120 qsf:=li Try.func120 rfl q0i .z s0
def qi5:Shp:=⟨[qkm],[]⟩
abbrev qli:Ctx (Bool):=⟨29,tt,false,false,[],kf [(119,qea),(120,qsf)],lf [aw _ 29 [] qsd (C:=(ByteArray×Int)) (S:=Int) (fun x=>((x.1.1,x.1.2.1),x.1.2.2.1)) qsc (CE:=Unit) (E:=Unit) (fun c e=>((()),(()))) (fun c=>()) (fun{R} c a nx dn rt=>o3 c.1 c.2 a nx dn rt)],cd 29 tt [] [.tmp 2] qi5 (fun x=>x.1.1)⟩
theorem qlg:CtxM Try.prog qli:=lq fits mixed (mC qgz (mC qwn m0))
theorem qtu:ba Try.prog qli 0 (lc 0 Try.f108 75):=lp rfl qlg .z s0 (fun c a=>((c.1,c.2,a,()),(()))) (fun y=>((),()))
abbrev qlh:Mdl:=(ax (.cons (.d false .str) .nil) [] [] 1 qi5 (B:=Bool) (fun b=>((b,()),(()))) (fun a=>qbq a.1.1))
theorem qse:MdlOK Try.prog 108 qlh:=li Try.func108 rfl qlg (.two .z (.two .z (.two (.two .z (.s 0)) .z))) (sC qtu s0)
def qg7:Shp:=⟨[qkm],[]⟩
abbrev qjf:Ctx (Bool):=⟨36,tt,false,false,[],kf [],lf [aw _ 36 [] qp1 (C:=(qL1×qL1×Int×Int×(List ae)×Int×Int)) (S:=Int) (fun x=>((x.1.1,x.1.2.2.1,(pe3 x.1),x.2.1.1,x.2.1.2.1,x.2.1.2.2.1,(pe3 x.2.1)),(pe4 x.1))) qp0 (CE:=Unit) (E:=Unit) (fun c e=>((()),(()))) (fun c=>()) (fun{R} c a nx dn rt=>lh c.1 c.2.1 c.2.2.1 (pe3 c) (pe4 c) (pe5 c) (pf6 c) a nx dn rt)],cd 36 tt [] [.tmp 4] qg7 (fun x=>x.1.1)⟩
theorem qjd:CtxM Try.prog qjf:=lq fits mixed m0
theorem qsu:ba Try.prog qjf 0 (lc 0 Try.f109 37):=lp rfl qjd .z s0 (fun c a=>((c.1,(),c.2.1,c.2.2.1,a,()),(((pe3 c),(pe4 c),(pe5 c),(pf6 c),()),()))) (fun y=>((),()))
abbrev qje:Mdl:=(ax (.cons (.d false a8.ty) (.cons (.d false qT1) .nil)) [] [] 1 qg7 (B:=Bool) (fun b=>((b,()),(()))) (fun a=>ji a.1.1 a.1.2.1))
theorem qp2:MdlOK Try.prog 109 qje:=li Try.func109 rfl qjd (.two .z (.two (.two .z (.s 0)) .z)) (sC qsu s0)
def qjb:Shp:=⟨[qkm],[]⟩
abbrev qlp:Ctx (Bool):=⟨62,tt,false,false,[],kf [(108,qlh),(109,qje)],lf [aw _ 62 [] qsp (C:=((List ae)×Int×Int×(List ae)×Int×Int)) (S:=Int) (fun x=>((x.1.2.1,x.1.2.2.1,x.2.1.1,x.2.1.2.1,x.2.1.2.2.1,(pe3 x.2.1)),(pe3 x.1))) qso (CE:=(Int×(List ae)×Int×Int)) (E:=Unit) (fun c e=>(((),()),((c.1,c.2.1,c.2.2.1,c.2.2.2,()),()))) (fun c=>(c.2.2.1,(pe3 c),(pe4 c),(pf5 c))) (fun{R} c a nx dn rt=>ui c.1 c.2.1 c.2.2.1 (pe3 c) (pe4 c) (pf5 c) a nx dn rt)],cd 62 tt [] [.tmp 2] qjb (fun x=>x.1.1)⟩
theorem qlo:CtxM Try.prog qlp:=lq fits mixed (mC qse (mC qp2 m0))
theorem qtw:ba Try.prog qlp 0 (lc 0 Try.f85 75):=lp rfl qlo .z s0 (fun c a=>(((),c.1,c.2.1,a,()),((c.2.2.1,(pe3 c),(pe4 c),(pf5 c),()),()))) (fun y=>((y.2.1.1,y.2.1.2.1,y.2.1.2.2.1,(pe3 y.2.1)),()))
abbrev uj:Mdl:=(ax (.cons (.d false a8.ty) .nil) [] [] 1 qjb (B:=Bool) (fun b=>((b,()),(()))) (fun a=>o5 a.1.1))
theorem uk:MdlOK Try.prog 85 uj:=li Try.func85 rfl qlo (.two .z (.two .z (.two (.two .z (.s 0)) .z))) (sC qtw s0)
def u6:Shp:=⟨[qu0],[]⟩
abbrev vx:Ctx (Int):=⟨19,tt,false,false,[],kf [],lf [aw _ 19 [] qdp (C:=(qL1×Int×Int)) (S:=Int) (fun x=>((x.1.1,x.1.2.1,x.1.2.2.1),(pe3 x.1))) qdo (CE:=Unit) (E:=Unit) (fun c e=>((()),(()))) (fun c=>()) (fun{R} c a nx dn rt=>iq c.1 c.2.1 c.2.2 a nx dn rt)],cd 19 tt [] [.tmp 4] u6 (fun x=>x.1.1)⟩
theorem vp:CtxM Try.prog vx:=lq fits mixed m0
theorem qek:ba Try.prog vx 0 (lc 0 Try.f115 37):=lp rfl vp .z s0 (fun c a=>((c.1,c.2.1,c.2.2,a,()),(()))) (fun y=>((),()))
abbrev vq:Mdl:=(ax (.cons (.d false qT1) (.cons (.d false qT0) .nil)) [] [] 1 u6 (B:=Int) (fun b=>((b,()),(()))) (fun a=>pb a.1.1 a.1.2.1))
theorem qdq:MdlOK Try.prog 115 vq:=li Try.func115 rfl vp (.two .z (.two (.two .z (.s 0)) .z)) (sC qek s0)
def qg:Shp:=⟨[qkm],[]⟩
abbrev qcd:Ctx (Bool):=⟨9,tt,false,false,[],kf [(115,vq)],lf [],cd 9 tt [] [.tmp 4] qg (fun x=>x.1.1)⟩
theorem qcc:CtxM Try.prog qcd:=lq fits mixed (mC qdq m0)
abbrev rn:Mdl:=(ax (.cons (.d false qT1) (.cons (.d false qT0) .nil)) [] [] 1 qg (B:=Bool) (fun b=>((b,()),(()))) (fun a=>fe a.1.1 a.1.2.1))
theorem qa3:MdlOK Try.prog 100 rn:=li Try.func100 rfl qcc .z s0
def qbv:Shp:=⟨[qkm],[]⟩
abbrev qnz:Ctx (Bool):=⟨8,tt,false,false,[],kf [],lf [],cd 8 tt [] [.tmp 3] qbv (fun x=>x.1.1)⟩
theorem qny:CtxM Try.prog qnz:=lq fits mixed m0
abbrev qdb:Mdl:=(ax (.cons (.d false qT0) (.cons (.rp false (.slice .bool)) .nil)) [] [] 1 qbv (B:=Bool) (fun b=>((b,()),(()))) (fun a=>ry a.1.1 a.1.2.1))
theorem qkc:MdlOK Try.prog 116 qdb:=li Try.func116 rfl qny .z s0
def mz:Shp:=⟨[qu0],[]⟩
abbrev m9:Ctx (Int):=⟨19,tt,false,false,[],kf [(116,qdb)],lf [aw _ 19 [] vf (C:=(qL1×(List Bool)×Int)) (S:=Int) (fun x=>((x.1.1,x.1.2.1.1,x.1.2.2.1),(pe3 x.1))) ve (CE:=Unit) (E:=Unit) (fun c e=>((()),(()))) (fun c=>()) (fun{R} c a nx dn rt=>dv c.1 c.2.1 c.2.2 a nx dn rt)],cd 19 tt [] [.tmp 4] mz (fun x=>x.1.1)⟩
theorem m7:CtxM Try.prog m9:=lq fits mixed (mC qkc m0)
theorem wq:ba Try.prog m9 0 (lc 0 Try.f110 37):=lp rfl m7 .z s0 (fun c a=>((c.1,(c.2.1,()),c.2.2,a,()),(()))) (fun y=>((),()))
abbrev m8:Mdl:=(ax (.cons (.d false qT1) (.cons (.fn 116 (.cons (.rp false (.slice .bool)) .nil)) .nil)) [] [] 1 mz (B:=Int) (fun b=>((b,()),(()))) (fun a=>iv a.1.1 a.1.2.1.1))
theorem vg:MdlOK Try.prog 110 m8:=li Try.func110 rfl m7 (.two .z (.two (.two .z (.s 0)) .z)) (sC wq s0)
def ky:Shp:=⟨[qkm],[]⟩
abbrev uz:Ctx (Bool):=⟨9,tt,false,false,[],kf [(110,m8)],lf [],cd 9 tt [] [.tmp 4] ky (fun x=>x.1.1)⟩
theorem uy:CtxM Try.prog uz:=lq fits mixed (mC vg m0)
abbrev lu:Mdl:=(ax (.cons (.d false qT1) (.cons (.fn 116 (.cons (.rp false (.slice .bool)) .nil)) .nil)) [] [] 1 ky (B:=Bool) (fun b=>((b,()),(()))) (fun a=>ci a.1.1 a.1.2.1.1))
theorem sk:MdlOK Try.prog 86 lu:=li Try.func86 rfl uy .z s0
def qfd:Shp:=⟨[jdw,(1, .own 1)],[qqc,qqc]⟩
abbrev uo:Ctx (((List Bool)×(List Bool))):=⟨69,tt,false,false,[],kf [(86,lu)],lf [aw _ 69 [] qnt (C:=(Bool×Bool×(List ae)×Int×Int×qL1×Int×Int×(List ae)×Int×Int×(List Bool))) (S:=(Int×(List Bool))) (fun x=>((x.1.1,(pe4 x.1),(pe5 x.1),(pe6 x.1),(pe7 x.1),(pe8 x.1),(pe9 x.1),x.2.1.1,x.2.1.2.1,x.2.1.2.2.1,(pe3 x.2.1),(pe3 x)),((pe10 x.1),(pe4 x)))) qns (CE:=(Bool×Bool×(List ae)×Int×Int×Int×(List ae)×Int×Int×(List Bool))) (E:=(List Bool)) (fun c e=>((c.1,(),(),(),c.2.1,c.2.2.1,(pe3 c),(pe4 c),()),(((pe5 c),(pe6 c),(pe7 c),(pe8 c),()),((),()),(pf9 c),e,()))) (fun c=>(c.1,c.2.1,c.2.2.1,(pe3 c),(pe4 c),(pe7 c),(pe8 c),(pe9 c),(pe10 c),(pf11 c))) (fun{R} c a nx dn rt=>po c.1 c.2.1 c.2.2.1 (pe3 c) (pe4 c) (pe5 c) (pe6 c) (pe7 c) (pe8 c) (pe9 c) (pe10 c) (pf11 c) a.1 a.2 nx dn rt),aw _ 69 [] qnv (C:=(Bool×(List ae)×Int×Int×(List ae)×Int×Int)) (S:=(Bool×Int×(List Bool)×(List Bool))) (fun x=>((x.1.1,(pe5 x.1),(pe6 x.1),x.2.1.1,x.2.1.2.1,x.2.1.2.2.1,(pe3 x.2.1)),((pe4 x.1),(pe7 x.1),(pe3 x),(pe4 x)))) qnu (CE:=(Bool×Int×(List ae)×Int×Int)) (E:=(Bool×(List Bool)×(List Bool))) (fun c e=>((c.1,(),(),(),e.1,()),((c.2.1,c.2.2.1,(pe3 c),(pf4 c),()),((),()),e.2.1,e.2.2,()))) (fun c=>(c.1,(pe3 c),(pe4 c),(pe5 c),(pf6 c))) (fun{R} c a nx dn rt=>fb c.1 c.2.1 c.2.2.1 (pe3 c) (pe4 c) (pe5 c) (pf6 c) a.1 a.2.1 a.2.2.1 a.2.2.2 nx dn rt),aw _ 69 [] qnx (C:=(Bool×Int×(List ae)×Int×Int)) (S:=(Bool×(List Bool)×(List Bool))) (fun x=>((x.1.1,x.2.1.1,x.2.1.2.1,x.2.1.2.2.1,(pe3 x.2.1)),((pe4 x.1),(pe3 x),(pe4 x)))) qnw (CE:=Unit) (E:=((List Bool)×(List Bool))) (fun c e=>(((),(),()),(((),()),e.1,e.2,()))) (fun c=>()) (fun{R} c a nx dn rt=>wj c.1 c.2.1 c.2.2.1 (pe3 c) (pf4 c) a.1 a.2.1 a.2.2 nx dn rt)],cd 69 tt [] [.tmp 6, .tmp 7] qfd (fun x=>(x.2.1,x.2.2.1))⟩
theorem um:CtxM Try.prog uo:=lq fits mixed (mC sk m0)
theorem qp3:ba Try.prog uo 0 (lc 4 Try.f101 41838231):=lp rfl um .z s0 (fun c a=>((c.1,(),(),(),c.2.1,c.2.2.1,(pe3 c),(pe4 c),(pe5 c),(pe6 c),a.1,()),(((pe7 c),(pe8 c),(pe9 c),(pe10 c),()),((),()),(pf11 c),a.2,()))) (fun y=>((y.1.1,(pe4 y.1),(pe5 y.1),(pe6 y.1),(pe7 y.1),y.2.1.1,y.2.1.2.1,y.2.1.2.2.1,(pe3 y.2.1),(pe3 y)),(pe4 y)))
theorem qp4:ba Try.prog uo 1 (lc 2 Try.f101 9879):=lp rfl um (.two .z (.two .z (.two (.one (.two .z (.two (.d [0,1,0,4,3,31] [] []) (.two .z (.two .z (.two .z (.two .z (.s 0)))))))) .z))) (sC qp3 s0) (fun c a=>((c.1,(),(),(),a.1,c.2.1,c.2.2.1,a.2.1,()),(((pe3 c),(pe4 c),(pe5 c),(pf6 c),()),((),()),a.2.2.1,a.2.2.2,()))) (fun y=>((y.1.1,y.2.1.1,y.2.1.2.1,y.2.1.2.2.1,(pe3 y.2.1)),((pe4 y.1),(pe3 y),(pe4 y))))
theorem qp5:ba Try.prog uo 2 (lc 0 Try.f101 151):=lp rfl um (.two .z (.one (.two .z (.two .z (.s 1))))) (sC qp4 s0) (fun c a=>((c.1,(),(),(),a.1,()),((c.2.1,c.2.2.1,(pe3 c),(pf4 c),()),((),()),a.2.1,a.2.2,()))) (fun y=>((),(y.2.2.1,(pe3 y))))
abbrev qg8:Mdl:=(ax (.cons (.d false a8.ty) (.cons (.d false qT0) (.cons (.d false .bool) .nil))) [] [] 2 qfd (B:=((List Bool)×(List Bool))) (fun b=>(((),(),()),(b.1,b.2,()))) (fun a=>mf a.1.1 a.1.2.1 a.1.2.2.1))
theorem qn0:MdlOK Try.prog 101 qg8:=li Try.func101 rfl um (.two .z (.two (.d [0,1,3,0,8,24,56,0,135,511] [8] []) (.two .z (.two (.two .z (.s 2)) .z)))) (sC qp5 s0)
def rq:Shp:=⟨[qu0],[]⟩
abbrev tj:Ctx (Int):=⟨19,tt,false,false,[],kf [],lf [aw _ 19 [] qa9 (C:=((List Bool)×Bool×Int)) (S:=Int) (fun x=>((x.1.1,x.1.2.1,x.1.2.2.1),(pe3 x.1))) qa8 (CE:=Unit) (E:=Unit) (fun c e=>((()),(()))) (fun c=>()) (fun{R} c a nx dn rt=>f7 c.1 c.2.1 c.2.2 a nx dn rt)],cd 19 tt [] [.tmp 4] rq (fun x=>x.1.1)⟩
theorem tf:CtxM Try.prog tj:=lq fits mixed m0
theorem qce:ba Try.prog tj 0 (lc 0 Try.f117 37):=lp rfl tf .z s0 (fun c a=>((c.1,c.2.1,c.2.2,a,()),(()))) (fun y=>((),()))
abbrev th:Mdl:=(ax (.cons (.d false (.slice .bool)) (.cons (.d false .bool) .nil)) [] [] 1 rq (B:=Int) (fun b=>((b,()),(()))) (fun a=>nr a.1.1 a.1.2.1))
theorem qba:MdlOK Try.prog 117 th:=li Try.func117 rfl tf (.two .z (.two (.two .z (.s 0)) .z)) (sC qce s0)
def om:Shp:=⟨[qkm],[]⟩
abbrev qa2:Ctx (Bool):=⟨9,tt,false,false,[],kf [(117,th)],lf [],cd 9 tt [] [.tmp 4] om (fun x=>x.1.1)⟩
theorem qa1:CtxM Try.prog qa2:=lq fits mixed (mC qba m0)
abbrev o6:Mdl:=(ax (.cons (.d false (.slice .bool)) (.cons (.d false .bool) .nil)) [] [] 1 om (B:=Bool) (fun b=>((b,()),(()))) (fun a=>bt a.1.1 a.1.2.1))
theorem yu:MdlOK Try.prog 102 o6:=li Try.func102 rfl qa1 .z s0
def qc6:Shp:=⟨[qkm],[]⟩
abbrev yo:Ctx (Bool):=⟨65,tt,false,false,[],kf [(85,uj),(100,rn),(101,qg8),(102,o6)],lf [aw _ 65 [] qlt (C:=((List ae)×Int×Int×(List ae)×Int×Int)) (S:=Int) (fun x=>((x.1.2.1,x.1.2.2.1,x.2.1.1,x.2.1.2.1,x.2.1.2.2.1,(pe3 x.2.1)),(pe3 x.1))) qls (CE:=(Int×(List ae)×Int×Int)) (E:=Unit) (fun c e=>(((),()),((c.1,c.2.1,c.2.2.1,c.2.2.2,()),()))) (fun c=>(c.2.2.1,(pe3 c),(pe4 c),(pf5 c))) (fun{R} c a nx dn rt=>oi c.1 c.2.1 c.2.2.1 (pe3 c) (pe4 c) (pf5 c) a nx dn rt),aw _ 65 [] qlv (C:=((List Bool)×Int×Int×(List ae)×Int×Int)) (S:=Int) (fun x=>((x.1.2.1,x.1.2.2.1,x.2.1.1,x.2.1.2.1,x.2.1.2.2.1,(pe3 x.2.1)),(pe3 x.1))) qlu (CE:=Unit) (E:=Unit) (fun c e=>((()),(()))) (fun c=>()) (fun{R} c a nx dn rt=>oj c.1 c.2.1 c.2.2.1 (pe3 c) (pe4 c) (pf5 c) a nx dn rt)],cd 65 tt [] [.tmp 2] qc6 (fun x=>x.1.1)⟩
theorem yn:CtxM Try.prog yo:=lq fits mixed (mC uk (mC qa3 (mC qn0 (mC yu m0))))
theorem qnn:ba Try.prog yo 1 (lc 2 Try.f76 151):=lp rfl yn .z s0 (fun c a=>(((),c.1,c.2.1,a,()),((c.2.2.1,(pe3 c),(pe4 c),(pf5 c),()),()))) (fun y=>((),()))
theorem qnm:ba Try.prog yo 0 (lc 0 Try.f76 75):=lp rfl yn .z s0 (fun c a=>(((),c.1,c.2.1,a,()),((c.2.2.1,(pe3 c),(pe4 c),(pf5 c),()),()))) (fun y=>((y.2.1.1,y.2.1.2.1,y.2.1.2.2.1,(pe3 y.2.1)),()))
abbrev qe9:Mdl:=(ax (.cons (.d false a8.ty) .nil) [] [] 1 qc6 (B:=Bool) (fun b=>((b,()),(()))) (fun a=>gp a.1.1))
theorem qlw:MdlOK Try.prog 76 qe9:=li Try.func76 rfl yn (.two .z (.two .z (.two (.two .z (.s 0)) (.two (.two .z (.s 1)) .z)))) (sC qnm (sC qnn s0))
def qgj:Shp:=⟨[qu0],[]⟩
abbrev qtq:Ctx (Int):=⟨13,tt,false,false,[],kf [(76,qe9)],lf [],cd 13 tt [] [.tmp 4] qgj (fun x=>x.1.1)⟩
theorem qtp:CtxM Try.prog qtq:=lq fits mixed (mC qlw m0)
abbrev qb5:Mdl:=(ax (.cons (.d false a8.ty) (.cons (.d false a8.ty) .nil)) [] [] 1 qgj (B:=Int) (fun b=>((b,()),(()))) (fun a=>zl a.1.1 a.1.2.1))
theorem qe0:MdlOK Try.prog 43 qb5:=li Try.func43 rfl qtp .z s0
def qo0:Shp:=⟨[jdw,q8m],[qre]⟩
abbrev q0s:Ctx ((Int×qL1)):=⟨17,tt,false,false,[],kf [(85,uj)],lf [],cd 17 tt [] [.tmp 4, .tmp 5] qo0 (fun x=>(x.1.2.1,x.2.1))⟩
theorem q0r:CtxM Try.prog q0s:=lq fits mixed (mC uk m0)
abbrev qkb:Mdl:=(ax (.cons (.d false a8.ty) (.cons (.d false qT0) .nil)) [] [] 2 qo0 (B:=(Int×qL1)) (fun b=>(((),b.1,()),(b.2,()))) (fun a=>qda a.1.1 a.1.2.1))
theorem ql0:MdlOK Try.prog 104 qkb:=li Try.func104 rfl q0r .z s0
def qe8:Shp:=⟨[jod,q8m],[]⟩
abbrev qsk:Ctx ((qL1×Int)):=⟨10,tt,false,false,[],kf [(104,qkb)],lf [],cd 10 tt [] [.tmp 2, .tmp 3] qe8 (fun x=>(x.1.1,x.1.2.1))⟩
theorem qsj:CtxM Try.prog qsk:=lq fits mixed (mC ql0 m0)
abbrev qau:Mdl:=(ax (.cons (.d false a8.ty) .nil) [] [] 2 qe8 (B:=(qL1×Int)) (fun b=>((b.1,b.2,()),(()))) (fun a=>q0 a.1.1))
theorem qc3:MdlOK Try.prog 79 qau:=li Try.func79 rfl qsj .z s0
def qbu:Shp:=⟨[qkm],[]⟩
abbrev qnr:Ctx (Bool):=⟨9,tt,false,false,[],kf [],lf [],cd 9 tt [] [.tmp 2] qbu (fun x=>x.1.1)⟩
theorem qnq:CtxM Try.prog qnr:=lq fits mixed m0
abbrev qc9:Mdl:=(ax (.cons (.d false qT0) .nil) [] [] 1 qbu (B:=Bool) (fun b=>((b,()),(()))) (fun a=>yq a.1.1))
theorem qka:MdlOK Try.prog 87 qc9:=li Try.func87 rfl qnq .z s0
def nc:Shp:=⟨[qu0],[]⟩
abbrev n8:Ctx (Int):=⟨19,tt,false,false,[],kf [(87,qc9)],lf [aw _ 19 [] wv (C:=(qL1×Int)) (S:=Int) (fun x=>((x.1.1,x.1.2.2.1),(pe3 x.1))) wu (CE:=Unit) (E:=Unit) (fun c e=>((()),(()))) (fun c=>()) (fun{R} c a nx dn rt=>ee c.1 c.2 a nx dn rt)],cd 19 tt [] [.tmp 4] nc (fun x=>x.1.1)⟩
theorem n6:CtxM Try.prog n8:=lq fits mixed (mC qka m0)
theorem yb:ba Try.prog n8 0 (lc 0 Try.f110 37):=lp rfl n6 .z s0 (fun c a=>((c.1,(()),c.2,a,()),(()))) (fun y=>((),()))
abbrev n7:Mdl:=(ax (.cons (.d false qT1) (.cons (.fn 87 .nil) .nil)) [] [] 1 nc (B:=Int) (fun b=>((b,()),(()))) (fun a=>jk a.1.1))
theorem wx:MdlOK Try.prog 110 n7:=li Try.func110 rfl n6 (.two .z (.two (.two .z (.s 0)) .z)) (sC yb s0)
def lw:Shp:=⟨[qkm],[]⟩
abbrev u9:Ctx (Bool):=⟨9,tt,false,false,[],kf [(110,n7)],lf [],cd 9 tt [] [.tmp 4] lw (fun x=>x.1.1)⟩
theorem u7:CtxM Try.prog u9:=lq fits mixed (mC wx m0)
abbrev mh:Mdl:=(ax (.cons (.d false qT1) (.cons (.fn 87 .nil) .nil)) [] [] 1 lw (B:=Bool) (fun b=>((b,()),(()))) (fun a=>ed a.1.1))
theorem tk:MdlOK Try.prog 86 mh:=li Try.func86 rfl u7 .z s0
def qfb:Shp:=⟨[qkm],[]⟩
abbrev qst:Ctx (Bool):=⟨19,tt,false,false,[],kf [(85,uj),(86,mh)],lf [],cd 19 tt [] [.tmp 4] qfb (fun x=>x.1.1)⟩
theorem qss:CtxM Try.prog qst:=lq fits mixed (mC uk (mC tk m0))
abbrev ul:Mdl:=(ax (.cons (.d false a8.ty) (.cons (.d false qT1) .nil)) [] [] 1 qfb (B:=Bool) (fun b=>((b,()),(()))) (fun a=>ju a.1.1 a.1.2.1))
theorem wi:MdlOK Try.prog 49 ul:=li Try.func49 rfl qss .z s0
def rc:Shp:=⟨[jdw],[qre]⟩
abbrev qdi:Ctx (qL1):=⟨8,tt,false,false,[],kf [],lf [],cd 8 tt [] [.tmp 2] rc (fun x=>x.2.1)⟩
theorem qdg:CtxM Try.prog qdi:=lq fits mixed m0
abbrev qdh:Mdl:=(ax (.cons (.nl false (.d false qT1)) .nil) [] [] 1 rc (B:=qL1) (fun b=>(((),()),(b,()))) (fun a=>uu a.1.1))
theorem qa6:MdlOK Try.prog 50 qdh:=li Try.func50 rfl qdg .z s0
def mg:Shp:=⟨[jdw],[qre]⟩
abbrev qdl:Ctx (qL1):=⟨8,tt,false,false,[],kf [],lf [],cd 8 tt [] [.tmp 2] mg (fun x=>x.2.1)⟩
theorem qdj:CtxM Try.prog qdl:=lq fits mixed m0
abbrev qdk:Mdl:=(ax (.cons (.nl true (.d false qT1)) .nil) [] [] 1 mg (B:=qL1) (fun b=>(((),()),(b,()))) (fun a=>jj a.1.1))
theorem qa7:MdlOK Try.prog 50 qdk:=li Try.func50 rfl qdj .z s0
abbrev f9:Mdl:=(ax (.cons (.d false qT1) .nil) [] [] 1 mg (fun(b:qL1)=>(((),()),(b,()))) (fun(a:((qL1×Unit)×(Unit)))=>bq a.1.1))
theorem il:MdlOK Try.prog 50 f9:=by
 refine q3s (q8d _ _) qa6 qa7 (by kernel_rfl) (fun a b h=>⟨?_,h⟩);obtain⟨⟨xs,u1⟩,u2⟩:=a;cases xs with
 |nil=>exact h
 |cons x l=>
  have e:decide ((((x::l).length:Nat):Int)=0)=false:=decide_eq_false (by simp only[List.length_cons];omega);simp only[bq,jj]at h;simp only[uu,e,cond_false];exact h
def qbt:Shp:=⟨[qkm],[]⟩
abbrev qnp:Ctx (Bool):=⟨9,tt,false,false,[],kf [],lf [],cd 9 tt [] [.tmp 3] qbt (fun x=>x.1.1)⟩
theorem qno:CtxM Try.prog qnp:=lq fits mixed m0
abbrev qc7:Mdl:=(ax (.cons (.d false qT0) (.cons (.rp false qT1) .nil)) [] [] 1 qbt (B:=Bool) (fun b=>((b,()),(()))) (fun a=>yp a.1.1 a.1.2.1))
theorem qj9:MdlOK Try.prog 111 qc7:=li Try.func111 rfl qno .z s0
def mw:Shp:=⟨[qu0],[]⟩
abbrev m6:Ctx (Int):=⟨19,tt,false,false,[],kf [(111,qc7)],lf [aw _ 19 [] vb (C:=(qL1×qL1×Int)) (S:=Int) (fun x=>((x.1.1,x.1.2.1.1,x.1.2.2.1),(pe3 x.1))) va (CE:=Unit) (E:=Unit) (fun c e=>((()),(()))) (fun c=>()) (fun{R} c a nx dn rt=>du c.1 c.2.1 c.2.2 a nx dn rt)],cd 19 tt [] [.tmp 4] mw (fun x=>x.1.1)⟩
theorem m4:CtxM Try.prog m6:=lq fits mixed (mC qj9 m0)
theorem wo:ba Try.prog m6 0 (lc 0 Try.f110 37):=lp rfl m4 .z s0 (fun c a=>((c.1,(c.2.1,()),c.2.2,a,()),(()))) (fun y=>((),()))
abbrev m5:Mdl:=(ax (.cons (.d false qT1) (.cons (.fn 111 (.cons (.rp false qT1) .nil)) .nil)) [] [] 1 mw (B:=Int) (fun b=>((b,()),(()))) (fun a=>iu a.1.1 a.1.2.1.1))
theorem vc:MdlOK Try.prog 110 m5:=li Try.func110 rfl m4 (.two .z (.two (.two .z (.s 0)) .z)) (sC wo s0)
def kw:Shp:=⟨[qkm],[]⟩
abbrev uw:Ctx (Bool):=⟨9,tt,false,false,[],kf [(110,m5)],lf [],cd 9 tt [] [.tmp 4] kw (fun x=>x.1.1)⟩
theorem uv:CtxM Try.prog uw:=lq fits mixed (mC vc m0)
abbrev ls:Mdl:=(ax (.cons (.d false qT1) (.cons (.fn 111 (.cons (.rp false qT1) .nil)) .nil)) [] [] 1 kw (B:=Bool) (fun b=>((b,()),(()))) (fun a=>fw a.1.1 a.1.2.1.1))
theorem sj:MdlOK Try.prog 86 ls:=li Try.func86 rfl uv .z s0
def qfa:Shp:=⟨[qkm],[]⟩
abbrev qsr:Ctx (Bool):=⟨10,tt,false,false,[],kf [(86,ls)],lf [],cd 10 tt [] [.tmp 4] qfa (fun x=>x.1.1)⟩
theorem qsq:CtxM Try.prog qsr:=lq fits mixed (mC sj m0)
abbrev qav:Mdl:=(ax (.cons (.d false ae.ty) (.cons (.d false qT1) .nil)) [] [] 1 qfa (B:=Bool) (fun b=>((b,()),(()))) (fun a=>rb a.1.1 a.1.2.1))
theorem qc8:MdlOK Try.prog 88 qav:=li Try.func88 rfl qsq .z s0
def yd:Shp:=⟨[qu0],[]⟩
abbrev zf:Ctx (Int):=⟨25,tt,false,false,[],kf [],lf [aw _ 25 [] qfw (C:=qL1) (S:=(Int×Int)) (fun x=>(x.1.1,(x.1.2.1,x.1.2.2.1))) qfv (CE:=Unit) (E:=Int) (fun c e=>((e,()),(()))) (fun c=>()) (fun{R} c a nx dn rt=>kq c a.1 a.2 nx dn rt)],cd 25 tt [] [.tmp 2] yd (fun x=>x.1.1)⟩
theorem zd:CtxM Try.prog zf:=lq fits mixed m0
theorem qhj:ba Try.prog zf 0 (lc 0 Try.f89 151):=lp rfl zd .z s0 (fun c a=>((c,a.1,a.2,()),(()))) (fun y=>((),y.1.1))
abbrev ze:Mdl:=(ax (.cons (.d false qT1) .nil) [] [] 1 yd (B:=Int) (fun b=>((b,()),(()))) (fun a=>ns a.1.1))
theorem qfx:MdlOK Try.prog 89 ze:=li Try.func89 rfl zd (.two .z (.two .z (.two .z (.two (.two .z (.s 0)) .z)))) (sC qhj s0)
def qlz:Shp:=⟨[jdw,q8m],[qre]⟩
abbrev qg5:Ctx ((Int×qL1)):=⟨66,tt,false,false,[],kf [(88,qav),(50,f9),(89,ze)],lf [aw _ 66 [] qt1 (C:=(qL1×Int×ByteArray×qL1×qL1)) (S:=(Int×qL1)) (fun x=>((x.1.2.2.1,(pe3 x.1),x.2.1.1,x.2.1.2.1,x.2.1.2.2.1),((pe4 x.1),x.2.2.1))) qt0 (CE:=(ByteArray×qL1×qL1)) (E:=qL1) (fun c e=>(((),(),()),((c.1,c.2.1,c.2.2,()),e,()))) (fun c=>(c.2.2.1,(pe3 c),(pf4 c))) (fun{R} c a nx dn rt=>xg c.1 c.2.1 c.2.2.1 (pe3 c) (pf4 c) a.1 a.2 nx dn rt),aw _ 66 [] qt3 (C:=(qL1×Int)) (S:=(Int×qL1)) (fun x=>((x.1.2.1,x.1.2.2.1),((pe3 x.1),x.2.1))) qt2 (CE:=Unit) (E:=qL1) (fun c e=>(((),()),(e,()))) (fun c=>()) (fun{R} c a nx dn rt=>xh c.1 c.2 a.1 a.2 nx dn rt)],cd 66 tt [] [.tmp 6, .tmp 7] qlz (fun x=>(x.1.2.1,x.2.1))⟩
theorem qg3:CtxM Try.prog qg5:=lq fits mixed (mC qc8 (mC il (mC qfx m0)))
theorem qw1:ba Try.prog qg5 1 (lc 2 Try.f51 1215):=lp rfl qg3 .z s0 (fun c a=>(((),c.1,c.2,a.1,()),(a.2,()))) (fun y=>((),y.2.1))
theorem qw0:ba Try.prog qg5 0 (lc 0 Try.f51 607):=lp rfl qg3 .z s0 (fun c a=>(((),(),c.1,c.2.1,a.1,()),((c.2.2.1,(pe3 c),(pf4 c),()),a.2,()))) (fun y=>((y.2.1.1,y.2.1.2.1,y.2.1.2.2.1),y.2.2.1))
abbrev qg4:Mdl:=(ax (.cons (.d false a8.ty) (.cons (.d false qT1) (.cons (.d false qT0) .nil))) [] [] 2 qlz (B:=(Int×qL1)) (fun b=>(((),b.1,()),(b.2,()))) (fun a=>me a.1.1 a.1.2.1 a.1.2.2.1))
theorem qjc:MdlOK Try.prog 51 qg4:=li Try.func51 rfl qg3 (.two .z (.two .z (.two .z (.two .z (.two .z (.two (.two .z (.s 0)) (.two (.two .z (.s 1)) .z))))))) (sC qw0 (sC qw1 s0))
def qow:Shp:=⟨[jod,q8m,q6w],[]⟩
abbrev qsn:Ctx ((qL1×Int×Int)):=⟨48,tt,false,false,[],kf [(49,ul),(50,f9),(51,qg4)],lf [aw _ 48 [] qwx (C:=(qL1×qL1×Int×Int×(List ae)×Int×Int)) (S:=(qL1×Int)) (fun x=>((x.1.1,(pe3 x.1),(pe4 x.1),x.2.1.1,x.2.1.2.1,x.2.1.2.2.1,(pe3 x.2.1)),(x.1.2.2.1,(pe5 x.1)))) qww (CE:=qL1) (E:=qL1) (fun c e=>((c,e,()),(()))) (fun c=>c.1) (fun{R} c a nx dn rt=>uh c.1 c.2.1 c.2.2.1 (pe3 c) (pe4 c) (pe5 c) (pf6 c) a.1 a.2 nx dn rt)],cd 48 tt [] [.tmp 6, .tmp 7, .tmp 8] qow (fun x=>(x.1.1,x.1.2.1,x.1.2.2.1))⟩
theorem qsl:CtxM Try.prog qsn:=lq fits mixed (mC wi (mC il (mC qjc m0)))
theorem qy1:ba Try.prog qsn 0 (lc 1 Try.f14 151):=lp rfl qsl .z s0 (fun c a=>((c.1,(),a.1,c.2.1,c.2.2.1,a.2,()),(((pe3 c),(pe4 c),(pe5 c),(pf6 c),()),()))) (fun y=>(y.1.1,y.1.2.1))
abbrev qsm:Mdl:=(ax (.cons (.d false a8.ty) (.cons (.d false qT1) (.cons (.d false qT1) .nil))) [] [] 3 qow (B:=(qL1×Int×Int)) (fun b=>((b.1,b.2.1,b.2.2,()),(()))) (fun a=>qhy a.1.1 a.1.2.1 a.1.2.2.1))
theorem qwy:MdlOK Try.prog 14 qsm:=li Try.func14 rfl qsl (.two .z (.two .z (.two .z (.two (.two .z (.s 0)) .z)))) (sC qy1 s0)
def qlr:Shp:=⟨[jn7,q8m],[ja3]⟩
abbrev qoz:Ctx ((Int×(List ByteArray))):=⟨47,tt,false,false,[],kf [(85,uj)],lf [aw _ 47 [] qty (C:=(qL1×Int×Int×(List ae)×Int×Int)) (S:=(Int×(List ByteArray))) (fun x=>((x.1.2.2.1,(pe3 x.1),x.2.1.1,x.2.1.2.1,x.2.1.2.2.1,(pe3 x.2.1)),((pe4 x.1),x.2.2.1))) qtx (CE:=Unit) (E:=(List ByteArray)) (fun c e=>(((),()),(e,()))) (fun c=>()) (fun{R} c a nx dn rt=>xf c.1 c.2.1 c.2.2.1 (pe3 c) (pe4 c) (pf5 c) a.1 a.2 nx dn rt)],cd 47 tt [] [.tmp 4, .tmp 5] qlr (fun x=>(x.1.2.1,x.2.1))⟩
theorem qox:CtxM Try.prog qoz:=lq fits mixed (mC uk m0)
theorem qwz:ba Try.prog qoz 0 (lc 1 Try.f80 151):=lp rfl qox .z s0 (fun c a=>(((),(),c.1,c.2.1,a.1,()),((c.2.2.1,(pe3 c),(pe4 c),(pf5 c),()),a.2,()))) (fun y=>((),y.2.1))
abbrev qoy:Mdl:=(ax (.cons (.d false a8.ty) (.cons (.d false qT1) .nil)) [] [] 2 qlr (B:=(Int×(List ByteArray))) (fun b=>(((),b.1,()),(b.2,()))) (fun a=>qec a.1.1 a.1.2.1))
theorem qtz:MdlOK Try.prog 80 qoy:=li Try.func80 rfl qox (.two .z (.two .z (.two .z (.two (.two .z (.s 0)) .z)))) (sC qwz s0)
def qbj:Shp:=⟨[jod,(1, .nl false (.own 0)),jk6],[ja3]⟩
abbrev qm0:Ctx ((qL1×Bool×(List ByteArray))):=⟨37,tt,false,false,[],kf [(79,qau),(14,qsm),(80,qoy)],lf [],cd 37 tt [] [.tmp 4, .tmp 5, .tmp 6] qbj (fun x=>(x.1.1,x.1.2.2.1,x.2.1))⟩
theorem qmz:CtxM Try.prog qm0:=lq fits mixed (mC qc3 (mC qwy (mC qtz m0)))
abbrev wd:Mdl:=(ax (.cons (.d false a8.ty) (.cons (.d false qT1) .nil)) [] [] 3 qbj (B:=(qL1×Bool×(List ByteArray))) (fun b=>((b.1,(),b.2.1,()),(b.2.2,()))) (fun a=>lg a.1.1 a.1.2.1))
theorem qai:MdlOK Try.prog 45 wd:=li Try.func45 rfl qmz .z s0
def qez:Shp:=⟨[jod,(1, .nl false (.own 0)),q6w],[ja3]⟩
abbrev qr6:Ctx ((qL1×Int×(List ByteArray))):=⟨40,tt,false,false,[],kf [(43,qb5),(45,wd)],lf [],cd 40 tt [] [.tmp 8, .tmp 9, .tmp 10] qez (fun x=>(x.1.1,x.1.2.2.1,x.2.1))⟩
theorem qr5:CtxM Try.prog qr6:=lq fits mixed (mC qe0 (mC qai m0))
abbrev qgi:Mdl:=(ax (.cons (.d false a8.ty) (.cons (.d false a8.ty) (.cons (.d false qT1) (.cons (.d false qT0) .nil)))) [] [] 3 qez (B:=(qL1×Int×(List ByteArray))) (fun b=>((b.1,(),b.2.1,()),(b.2.2,()))) (fun a=>qi3 a.1.1 a.1.2.1 a.1.2.2.1 (pe3 a.1)))
theorem qmy:MdlOK Try.prog 58 qgi:=li Try.func58 rfl qr5 .z s0
def qto:Shp:=⟨[jls],[]⟩
abbrev zk:Mdl:=(ax (.cons (.d false qT1) .nil) [] [] 1 qto (B:=ByteArray) (fun b=>((b,()),(()))) (fun a=>ll a.1.1))
theorem qao:MdlOK Try.prog 93 zk:=q7w _
def qln:Shp:=⟨[jdw,q8m],[qre]⟩
abbrev qy0:Ctx ((Int×qL1)):=⟨18,tt,false,false,[],kf [(49,ul),(51,qg4)],lf [],cd 18 tt [] [.tmp 6, .tmp 7] qln (fun x=>(x.1.2.1,x.2.1))⟩
theorem qyz:CtxM Try.prog qy0:=lq fits mixed (mC wi (mC qjc m0))
abbrev qou:Mdl:=(ax (.cons (.d false a8.ty) (.cons (.d false qT1) (.cons (.d false qT0) .nil))) [] [] 2 qln (B:=(Int×qL1)) (fun b=>(((),b.1,()),(b.2,()))) (fun a=>wh a.1.1 a.1.2.1 a.1.2.2.1))
theorem qtv:MdlOK Try.prog 16 qou:=li Try.func16 rfl qyz .z s0
def qe3:Shp:=⟨[jn7],[jbo]⟩
abbrev qgx:Ctx ((List ag)):=⟨32,tt,false,false,[],kf [(16,qou)],lf [aw _ 32 [] qnd (C:=(qL1×Int×Int×(List ae)×Int×Int)) (S:=(Int×(List ag))) (fun x=>((x.1.1,(pe3 x.1),x.2.1.1,x.2.1.2.1,x.2.1.2.2.1,(pe3 x.2.1)),((pe4 x.1),x.2.2.1))) qnc (CE:=Unit) (E:=(List ag)) (fun c e=>(((),()),(e,()))) (fun c=>()) (fun{R} c a nx dn rt=>pi c.1 c.2.1 c.2.2.1 (pe3 c) (pe4 c) (pf5 c) a.1 a.2 nx dn rt)],cd 32 tt [] [.tmp 4] qe3 (fun x=>x.2.1)⟩
theorem qgw:CtxM Try.prog qgx:=lq fits mixed (mC qtv m0)
theorem qpy:ba Try.prog qgx 0 (lc 0 Try.f94 75):=lp rfl qgw .z s0 (fun c a=>((c.1,(),(),c.2.1,a.1,()),((c.2.2.1,(pe3 c),(pe4 c),(pf5 c),()),a.2,()))) (fun y=>((),y.2.1))
abbrev oz:Mdl:=(ax (.cons (.d false a8.ty) (.cons (.d false qT1) .nil)) [] [] 1 qe3 (B:=(List ag)) (fun b=>(((),()),(b,()))) (fun a=>er a.1.1 a.1.2.1))
theorem pj:MdlOK Try.prog 94 oz:=li Try.func94 rfl qgw (.two .z (.two .z (.two (.two .z (.s 0)) .z))) (sC qpy s0)
def y9:Shp:=⟨[jdw,joh],[qpd]⟩
abbrev si:Ctx ((Bool×(List af))):=⟨109,tt,false,true,[],kf [(79,qau),(93,zk),(94,oz),(50,f9)],lf [aw _ 109 [] qgm (C:=((List ByteArray)×Int×Int×(List ag)×Int×Int×(List ae)×Int×Int×Int×qL1×qL1)) (S:=(Int×(List af)×(List (ByteArray×Bool)))) (fun x=>((x.1.1,x.1.2.1,(pe5 x.1),(pe7 x.1),(pe8 x.1),x.2.1.1,x.2.1.2.1,x.2.1.2.2.1,(pe3 x.2.1),(pe4 x).1,(pe4 x).2.1,(pe4 x).2.2.1),((pe9 x.1),x.2.2.1,(pe3 x)))) qgl (CE:=((List ByteArray)×Int×Int×Int×(List ae)×Int×Int)) (E:=((List af)×(List (ByteArray×Bool)))) (fun c e=>((c.1,c.2.1,(),(),(),c.2.2.1,()),(((pe3 c),(pe4 c),(pe5 c),(pf6 c),()),e.1,e.2,()))) (fun c=>(c.1,c.2.1,c.2.2.1,(pe5 c),(pe6 c),(pe7 c),(pe8 c))) (fun{R} c a nx dn rt=>x3 c.1 c.2.1 c.2.2.1 (pe3 c) (pe4 c) (pe5 c) (pe6 c) (pe7 c) (pe8 c) (pe9 c) (pe10 c) (pf11 c) a.1 a.2.1 a.2.2 nx dn rt),aw _ 109 [] qgo (C:=((List ByteArray)×Int×Int×(List ae)×Int×Int)) (S:=(Int×(List af)×(List (ByteArray×Bool)))) (fun x=>((x.1.1,x.1.2.1,x.2.1.1,x.2.1.2.1,x.2.1.2.2.1,(pe3 x.2.1)),((pe5 x.1),x.2.2.1,(pe3 x)))) qgn (CE:=Unit) (E:=(List af)) (fun c e=>(((),()),(e,()))) (fun c=>()) (fun{R} c a nx dn rt=>x4 c.1 c.2.1 c.2.2.1 (pe3 c) (pe4 c) (pf5 c) a.1 a.2.1 a.2.2 nx dn rt)],cd 109 tt [] [.tmp 6, .tmp 7] y9 (fun x=>(x.1.2.1,x.2.1))⟩
theorem sg:CtxM Try.prog si:=lq fits mixed (mC qc3 (mC qao (mC pj (mC il m0))))
theorem qis:ba Try.prog si 0 (lc 2 Try.f59 39215):=lp rfl sg (.two .z (.two .z (.two (.one (.two .z (.two (.d [0,1,0,4,0,16,60,124,252,3,1023] [] []) (.two .z (.two .z (.two .z (.two .z (.two .z (.d [0,0,0,4,0,16,48,0,128,384,1008,2046,4094,8191,16383] [10,11,12,13,14] []))))))))) .z))) s0 (fun c a=>((c.1,c.2.1,(),(),(),c.2.2.1,(),(pe3 c),(pe4 c),a.1,()),(((pe5 c),(pe6 c),(pe7 c),(pe8 c),()),a.2.1,a.2.2,((pe9 c),(pe10 c),(pf11 c),()),()))) (fun y=>((y.1.1,y.1.2.1,(pe5 y.1),y.2.1.1,y.2.1.2.1,y.2.1.2.2.1,(pe3 y.2.1)),(y.2.2.1,(pe3 y))))
theorem qit:ba Try.prog si 1 (lc 0 Try.f59 303):=lp rfl sg (.two .z (.two (.one (.two .z (.two .z (.s 0)))) .z)) (sC qis s0) (fun c a=>((c.1,c.2.1,(),(),(),a.1,()),((c.2.2.1,(pe3 c),(pe4 c),(pf5 c),()),a.2.1,a.2.2,()))) (fun y=>((),y.2.1))
abbrev qap:Mdl:=(ax (.cons (.d false a8.ty) (.cons (.d false (.slice .str)) (.cons (.d false qT0) .nil))) [] [] 2 y9 (B:=(Bool×(List af))) (fun b=>(((),b.1,()),(b.2,()))) (fun a=>qbn a.1.1 a.1.2.1 a.1.2.2.1))
theorem qgp:MdlOK Try.prog 59 qap:=li Try.func59 rfl sg (.two .z (.two .z (.two .z (.two .z (.two (.two .z (.s 1)) .z))))) (sC qit s0)
def qcq:Shp:=⟨[qkm],[]⟩
abbrev qpo:Ctx (Bool):=⟨9,tt,false,false,[],kf [],lf [],cd 9 tt [] [.tmp 3] qcq (fun x=>x.1.1)⟩
theorem qpn:CtxM Try.prog qpo:=lq fits mixed m0
abbrev yj:Mdl:=(ax (.cons (.d false af.ty) (.cons (.rp false (.slice .str)) .nil)) [] [] 1 qcq (B:=Bool) (fun b=>((b,()),(()))) (fun a=>qag a.1.1 a.1.2.1))
theorem qbh:MdlOK Try.prog 66 yj:=li Try.func66 rfl qpn .z s0
def c7:Shp:=⟨[qu0],[]⟩
abbrev df:Ctx (Int):=⟨19,tt,false,false,[],kf [(66,yj)],lf [aw _ 19 [] g9 (C:=((List af)×(List ByteArray)×Int)) (S:=Int) (fun x=>((x.1.1,x.1.2.1.1,x.1.2.2.1),(pe3 x.1))) gz (CE:=Unit) (E:=Unit) (fun c e=>((()),(()))) (fun c=>()) (fun{R} c a nx dn rt=>cr c.1 c.2.1 c.2.2 a nx dn rt)],cd 19 tt [] [.tmp 4] c7 (fun x=>x.1.1)⟩
theorem db:CtxM Try.prog df:=lq fits mixed (mC qbh m0)
theorem ig:ba Try.prog df 0 (lc 0 Try.f60 37):=lp rfl db .z s0 (fun c a=>((c.1,(c.2.1,()),c.2.2,a,()),(()))) (fun y=>((),()))
abbrev de:Mdl:=(ax (.cons (.d false (.slice af.ty)) (.cons (.fn 66 (.cons (.rp false (.slice .str)) .nil)) .nil)) [] [] 1 c7 (B:=Int) (fun b=>((b,()),(()))) (fun a=>di a.1.1 a.1.2.1.1))
theorem h8:MdlOK Try.prog 60 de:=li Try.func60 rfl db (.two .z (.two (.two .z (.s 0)) .z)) (sC ig s0)
def cp:Shp:=⟨[jdw],[qpd]⟩
abbrev c6:Ctx ((List af)):=⟨42,tt,false,false,[false],kf [(60,de),(66,yj)],lf [aw _ 42 [false] gi (C:=(List ByteArray)) (S:=(Int×Int×(List af))) (fun x=>(x.1.2.1.1,(x.1.2.2.1,(pe3 x.1),x.2.1))) gh (CE:=Unit) (E:=(Int×(List af))) (fun c e=>(((),e.1,()),(e.2,()))) (fun c=>()) (fun{R} c a nx dn rt=>cm c a.1 a.2.1 a.2.2 nx dn rt)],cd 42 tt [false] [.tmp 4] cp (fun x=>x.2.1)⟩
theorem cz:CtxM Try.prog c6:=lq fits mixed (mC h8 (mC qbh m0))
theorem gv:ba Try.prog c6 0 (lc 0 Try.f65 151):=lp rfl cz .z s0 (fun c a=>(((),(c,()),a.1,a.2.1,()),(a.2.2,()))) (fun y=>((),(y.1.2.1,y.2.1)))
abbrev c0:Mdl:=(ax (.cons (.own 0) (.cons (.fn 66 (.cons (.rp false (.slice .str)) .nil)) .nil)) [qpd] [false] 1 cp (B:=(List af)) (fun b=>(((),()),(b,()))) (fun a=>da a.1.2.1.1 a.2.1))
theorem gk:MdlOK Try.prog 65 c0:=li Try.func65 rfl cz (.two .z (.two .z (.two .z (.two (.two .z (.s 0)) .z)))) (sC gv s0)
def qbo:Shp:=⟨[],[qmc, .cs 38 1 1 (.cons (.own 3) .nil),qmm,qkw]⟩
abbrev qna:Ctx (((List (ByteArray×Bool))×qL2)):=⟨16,tt,false,false,[true,true,true,false],kf [(93,zk)],lf [],cd 16 tt [true,true,true,false] [] qbo (fun x=>((pe3 x),(pe4 x)))⟩
theorem qm9:CtxM Try.prog qna:=lq fits mixed (mC qao m0)
abbrev qcy:Mdl:=(ax (.cons (.d true qT1) (.cons (.ptr 0) (.cons (.ptr 1) .nil))) [qmc, .cs 38 1 1 (.cons (.own 3) .nil),qmm,qkw] [true,true,true,false] 0 qbo (B:=((List (ByteArray×Bool))×qL2)) (fun b=>((()),(((),()),((),()),b.1,b.2,()))) (fun a=>yk a.1.1 (pe3 a) (pe4 a)))
theorem qj5:MdlOK Try.prog 95 qcy:=li Try.func95 rfl qm9 (.two (.d [0,0,2,7,15] [] []) (.two (.two (.d [0,0,2,7] [3] []) .z) .z)) s0
def qe1:Shp:=⟨[(0, .own 1),joh],[qkw,qkw]⟩
abbrev ue:Ctx ((Bool×qL2×qL2)):=⟨61,tt,false,false,[true],kf [(95,qcy),(94,oz)],lf [aw _ 61 [true] qm4 (C:=(Int×Int×qL2×Int×(List ae)×Int×Int)) (S:=(Int×qL2×(List (ByteArray×Bool)))) (fun x=>((x.1.1,(pe5 x.1),x.2.1,x.2.2.1.1,x.2.2.1.2.1,x.2.2.1.2.2.1,(pe3 x.2.2.1)),((pe6 x.1),(pe5 x),(pe6 x)))) qm3 (CE:=(Int×qL2×Int×(List ae)×Int×Int)) (E:=(qL2×(List (ByteArray×Bool)))) (fun c e=>((c.1,(),(),((),(),()),()),(c.2.1,(c.2.2.1,(pe3 c),(pe4 c),(pf5 c),()),((),()),((),()),e.1,e.2,()))) (fun c=>(c.1,c.2.2.1,(pe3 c),(pe4 c),(pe5 c),(pf6 c))) (fun{R} c a nx dn rt=>qcv c.1 c.2.1 c.2.2.1 (pe3 c) (pe4 c) (pe5 c) (pf6 c) a.1 a.2.1 a.2.2 nx dn rt),aw _ 61 [true] qm6 (C:=(Int×Int×(List ag)×Int×qL2×Int×(List ae)×Int×Int)) (S:=(Int×qL2×(List (ByteArray×Bool)))) (fun x=>((x.1.1,(pe4 x.1),(pe5 x.1),(pe6 x.1),x.2.1,x.2.2.1.1,x.2.2.1.2.1,x.2.2.1.2.2.1,(pe3 x.2.2.1)),((pe7 x.1),(pe5 x),(pe6 x)))) qm5 (CE:=(Int×Int×qL2×Int×(List ae)×Int×Int)) (E:=(qL2×(List (ByteArray×Bool)))) (fun c e=>((c.1,(),(),((),(),()),c.2.1,()),(c.2.2.1,((pe3 c),(pe4 c),(pe5 c),(pf6 c),()),((),()),((),()),e.1,e.2,()))) (fun c=>(c.1,c.2.1,(pe4 c),(pe5 c),(pe6 c),(pe7 c),(pf8 c))) (fun{R} c a nx dn rt=>qcw c.1 c.2.1 c.2.2.1 (pe3 c) (pe4 c) (pe5 c) (pe6 c) (pe7 c) (pf8 c) a.1 a.2.1 a.2.2 nx dn rt),aw _ 61 [true] qm8 (C:=(Int×qL2×Int×(List ae)×Int×Int)) (S:=(Int×qL2×(List (ByteArray×Bool)))) (fun x=>((x.1.1,x.2.1,x.2.2.1.1,x.2.2.1.2.1,x.2.2.1.2.2.1,(pe3 x.2.2.1)),((pe4 x.1),(pe5 x),(pe6 x)))) qm7 (CE:=(Int×qL2)) (E:=qL2) (fun c e=>((c.1,(),()),(c.2,((),()),e,()))) (fun c=>(c.1,c.2.1)) (fun{R} c a nx dn rt=>qcx c.1 c.2.1 c.2.2.1 (pe3 c) (pe4 c) (pf5 c) a.1 a.2.1 a.2.2 nx dn rt)],cd 61 tt [true] [.tmp 6, .tmp 7] qe1 (fun x=>(x.1.2.1,x.2.1,x.2.2.1))⟩
theorem ud:CtxM Try.prog ue:=lq fits mixed (mC qj5 (mC pj m0))
theorem qpw:ba Try.prog ue 1 (lc 4 Try.f67 37471):=lp rfl ud .z s0 (fun c a=>((c.1,(),(),((),(),()),c.2.1,c.2.2.1,(pe3 c),a.1,()),((pe4 c),((pe5 c),(pe6 c),(pe7 c),(pf8 c),()),((),()),((),()),a.2.1,a.2.2,()))) (fun y=>((y.1.1,(pe4 y.1),y.2.1,y.2.2.1.1,y.2.2.1.2.1,y.2.2.1.2.2.1,(pe3 y.2.2.1)),((pe5 y),(pe6 y))))
theorem qpx:ba Try.prog ue 2 (lc 2 Try.f67 607):=lp rfl ud (.two .z (.two (.one (.two (.d [0,0,0,6,14,31,63,0] [] []) (.s 1))) .z)) (sC qpw s0) (fun c a=>((c.1,(),(),((),(),()),a.1,()),(c.2.1,(c.2.2.1,(pe3 c),(pe4 c),(pf5 c),()),((),()),((),()),a.2.1,a.2.2,()))) (fun y=>((y.1.1,y.2.1),(pe3 y)))
theorem qpv:ba Try.prog ue 0 (lc 0 Try.f67 303):=lp rfl ud .z s0 (fun c a=>((c.1,(),(),((),(),()),(),c.2.1,a.1,()),(c.2.2.1,((pe3 c),(pe4 c),(pe5 c),(pf6 c),()),((),()),((),()),a.2.1,a.2.2,()))) (fun y=>((y.1.1,y.2.1,y.2.2.1.1,y.2.2.1.2.1,y.2.2.1.2.2.1,(pe3 y.2.2.1)),((pe5 y),(pe6 y))))
abbrev qgq:Mdl:=(ax (.cons (.d false a8.ty) (.cons (.own 0) (.cons (.d false qT0) .nil))) [qkw] [true] 2 qe1 (B:=(Bool×qL2×qL2)) (fun b=>(((),b.1,()),(b.2.1,b.2.2,()))) (fun a=>qb6 a.1.1 a.1.2.2.1 a.2.1))
theorem qnb:MdlOK Try.prog 67 qgq:=li Try.func67 rfl ud (.two .z (.two .z (.two .z (.two .z (.two (.two .z (.s 0)) (.two (.two .z (.s 2)) (.two (.d [0,0,2,0,14,1,63] [] []) .z))))))) (sC qpv (sC qpx s0))
def qgk:Shp:=⟨[jls],[]⟩
abbrev qts:Ctx (ByteArray):=⟨11,tt,false,false,[],kf [(93,zk)],lf [],cd 11 tt [] [.tmp 4] qgk (fun x=>x.1.1)⟩
theorem qtr:CtxM Try.prog qts:=lq fits mixed (mC qao m0)
abbrev oa:Mdl:=(ax (.cons (.d false qT1) (.cons (.d false qT1) .nil)) [] [] 1 qgk (B:=ByteArray) (fun b=>((b,()),(()))) (fun a=>lm a.1.1 a.1.2.1))
theorem nw:MdlOK Try.prog 81 oa:=li Try.func81 rfl qtr .z s0
def qi9:Shp:=⟨[jdw,q8m],[qre]⟩
abbrev qwv:Ctx ((Int×qL1)):=⟨10,tt,false,false,[],kf [(104,qkb)],lf [],cd 10 tt [] [.tmp 2, .tmp 3] qi9 (fun x=>(x.1.2.1,x.2.1))⟩
theorem qwu:CtxM Try.prog qwv:=lq fits mixed (mC ql0 m0)
abbrev qeb:Mdl:=(ax (.cons (.d false a8.ty) .nil) [] [] 2 qi9 (B:=(Int×qL1)) (fun b=>(((),b.1,()),(b.2,()))) (fun a=>o4 a.1.1))
theorem qg2:MdlOK Try.prog 105 qeb:=li Try.func105 rfl qwu .z s0
def u4:Shp:=⟨[qkm],[]⟩
abbrev vm:Ctx (Bool):=⟨26,tt,false,false,[],kf [],lf [aw _ 26 [] qdn (C:=(qL1×qL1×Int)) (S:=Int) (fun x=>((x.1.1,x.1.2.1,x.1.2.2.1),(pe3 x.1))) qdm (CE:=Unit) (E:=Unit) (fun c e=>((()),(()))) (fun c=>()) (fun{R} c a nx dn rt=>ff c.1 c.2.1 c.2.2 a nx dn rt)],cd 26 tt [] [.tmp 4] u4 (fun x=>x.1.1)⟩
theorem vk:CtxM Try.prog vm:=lq fits mixed m0
theorem qej:ba Try.prog vm 0 (lc 0 Try.f19 75):=lp rfl vk (.two .z (.two .z (.two (.one (.two .z (.two (.d [0,0,3,7,0,0,48,112,255] [] []) .z))) .z))) s0 (fun c a=>((c.1,c.2.1,c.2.2,a,()),(()))) (fun y=>((),()))
abbrev eo:Mdl:=(ax (.cons (.d false qT1) (.cons (.d false qT1) .nil)) [] [] 1 u4 (B:=Bool) (fun b=>((b,()),(()))) (fun a=>bc a.1.1 a.1.2.1))
theorem fg:MdlOK Try.prog 19 eo:=li Try.func19 rfl vk (.two .z (.two .z (.two (.two .z (.s 0)) .z))) (sC qej s0)
def qe7:Shp:=⟨[jn7,q8m],[qre]⟩
abbrev qg1:Ctx ((Int×qL1)):=⟨30,tt,false,false,[],kf [(49,ul),(88,qav)],lf [aw _ 30 [] qnl (C:=(qL1×(List ae)×Int)) (S:=(Int×qL1)) (fun x=>((x.1.1,x.1.2.2.1,(pe3 x.1)),((pe4 x.1),x.2.1))) qnk (CE:=Unit) (E:=qL1) (fun c e=>(((),()),(e,()))) (fun c=>()) (fun{R} c a nx dn rt=>mr c.1 c.2.1 c.2.2 a.1 a.2 nx dn rt)],cd 30 tt [] [.tmp 4, .tmp 5] qe7 (fun x=>(x.1.2.1,x.2.1))⟩
theorem qg0:CtxM Try.prog qg1:=lq fits mixed (mC wi (mC qc8 m0))
theorem qpz:ba Try.prog qg1 0 (lc 0 Try.f103 151):=lp rfl qg0 .z s0 (fun c a=>((c.1,(),c.2.1,c.2.2,a.1,()),(a.2,()))) (fun y=>((),y.2.1))
abbrev ug:Mdl:=(ax (.cons (.d false a8.ty) (.cons (.d false qT1) .nil)) [] [] 2 qe7 (B:=(Int×qL1)) (fun b=>(((),b.1,()),(b.2,()))) (fun a=>mc a.1.1 a.1.2.1))
theorem wg:MdlOK Try.prog 103 ug:=li Try.func103 rfl qg0 (.two .z (.two .z (.two .z (.two (.two .z (.s 0)) .z)))) (sC qpz s0)
def xx:Shp:=⟨[qkm],[qqo,qmm]⟩
abbrev qia:Ctx ((Bool×(List (ByteArray×Bool)))):=⟨11,tt,false,false,[true,true],kf [(81,oa)],lf [],cd 11 tt [true,true] [.tmp 5] xx (fun x=>(x.1.1,x.2.2.1))⟩
theorem qh9:CtxM Try.prog qia:=lq fits mixed (mC nw m0)
abbrev qm:Mdl:=(ax (.cons (.d false qT1) (.cons (.d false qT1) (.cons (.ptr 0) .nil))) [qqo,qmm] [true,true] 1 xx (B:=(Bool×(List (ByteArray×Bool)))) (fun b=>((b.1,()),(((),()),b.2,()))) (fun a=>se a.1.1 a.1.2.1 a.2.2.1))
theorem vi:MdlOK Try.prog 96 qm:=li Try.func96 rfl qh9 (.two .z (.two (.d [0,0,0,6,15,31] [] []) .z)) s0
def xz:Shp:=⟨[qkm],[qpc,qmc,qmm]⟩
abbrev qif:Ctx ((Bool×(List (ByteArray×Bool)))):=⟨24,tt,false,false,[true,true,true],kf [(96,qm)],lf [],cd 24 tt [true,true,true] [.tmp 6] xz (fun x=>(x.1.1,(pe3 x)))⟩
theorem qie:CtxM Try.prog qif:=lq fits mixed (mC vi m0)
abbrev y6:Mdl:=(ax (.cons (.d false ag.ty) (.cons (.rp false a8.ty) (.cons (.rp false .str) (.cons (.ptr 0) (.cons (.rp false ag.ty) .nil))))) [qpc,qmc,qmm] [true,true,true] 1 xz (B:=(Bool×(List (ByteArray×Bool)))) (fun b=>((b.1,()),((((),()),()),((),()),b.2,()))) (fun a=>qaj a.1.1 a.1.2.1 a.1.2.2.1 (pe4 a.1) (pe3 a)))
theorem qfu:MdlOK Try.prog 107 y6:=li Try.func107 rfl qie (.two .z (.two (.d [0,1,0,4,15,31,63,0,255,511,1023,1023,3071,1023,9215,32767,65535,131071] [15,16,17] []) .z)) s0
def dq:Shp:=⟨[qu0],[qpc,qmc,qmm]⟩
abbrev ea:Ctx ((Int×(List (ByteArray×Bool)))):=⟨19,tt,false,false,[true,true,true],kf [(107,y6)],lf [aw _ 19 [true,true,true] jq (C:=((List ag)×a8×ByteArray×ag×Int)) (S:=(Int×(List (ByteArray×Bool)))) (fun x=>((x.1.1,x.1.2.1.1,x.1.2.1.2.1,(pe3 x.1.2.1),x.1.2.2.1),((pe3 x.1),(pe3 x)))) jp (CE:=Unit) (E:=(List (ByteArray×Bool))) (fun c e=>((()),((((),()),()),((),()),e,()))) (fun c=>()) (fun{R} c a nx dn rt=>dk c.1 c.2.1 c.2.2.1 (pe3 c) (pf4 c) a.1 a.2 nx dn rt)],cd 19 tt [true,true,true] [.tmp 4] dq (fun x=>(x.1.1,(pe3 x)))⟩
theorem d8:CtxM Try.prog ea:=lq fits mixed (mC qfu m0)
theorem kd:ba Try.prog ea 0 (lc 0 Try.f118 37):=lp rfl d8 .z s0 (fun c a=>((c.1,(c.2.1,c.2.2.1,(),(pe3 c),()),(pf4 c),a.1,()),((((),()),()),((),()),a.2,()))) (fun y=>((),(pe3 y)))
abbrev d9:Mdl:=(ax (.cons (.d false (.slice ag.ty)) (.cons (.fn 107 (.cons (.rp false a8.ty) (.cons (.rp false .str) (.cons (.ptr 0) (.cons (.rp false ag.ty) .nil))))) .nil)) [qpc,qmc,qmm] [true,true,true] 1 dq (B:=(Int×(List (ByteArray×Bool)))) (fun b=>((b.1,()),((((),()),()),((),()),b.2,()))) (fun a=>eb a.1.1 a.1.2.1.1 a.1.2.1.2.1 (pe3 a.1.2.1) (pe3 a)))
theorem jr:MdlOK Try.prog 118 d9:=li Try.func118 rfl d8 (.two .z (.two (.two .z (.s 0)) .z)) (sC kd s0)
def c9:Shp:=⟨[qkm],[qpc,qmc,qmm]⟩
abbrev i9:Ctx ((Bool×(List (ByteArray×Bool)))):=⟨9,tt,false,false,[true,true,true],kf [(118,d9)],lf [],cd 9 tt [true,true,true] [.tmp 4] c9 (fun x=>(x.1.1,(pe3 x)))⟩
theorem i7:CtxM Try.prog i9:=lq fits mixed (mC jr m0)
abbrev dh:Mdl:=(ax (.cons (.d false (.slice ag.ty)) (.cons (.fn 107 (.cons (.rp false a8.ty) (.cons (.rp false .str) (.cons (.ptr 0) (.cons (.rp false ag.ty) .nil))))) .nil)) [qpc,qmc,qmm] [true,true,true] 1 c9 (B:=(Bool×(List (ByteArray×Bool)))) (fun b=>((b.1,()),((((),()),()),((),()),b.2,()))) (fun a=>bv a.1.1 a.1.2.1.1 a.1.2.1.2.1 (pe3 a.1.2.1) (pe3 a)))
theorem ic:MdlOK Try.prog 106 dh:=li Try.func106 rfl i7 .z s0
def qam:Shp:=⟨[qkm],[qqo,qmm]⟩
abbrev uc:Ctx ((Bool×(List (ByteArray×Bool)))):=⟨85,tt,false,false,[true,true],kf [(105,qeb),(19,eo),(94,oz),(103,ug),(96,qm),(106,dh)],lf [aw _ 85 [true,true] qim (C:=(qL1×(List ag)×(List ag)×Int×Int×(List ae)×Int×Int×Int×(List ae)×Int×Int)) (S:=(Int×(List (ByteArray×Bool)))) (fun x=>((x.1.1,(pe4 x.1),(pe5 x.1),(pe6 x.1),(pe3 x).1,(pe3 x).2.1,(pe3 x).2.2.1,(pe3 (pe3 x)),(pe4 x).1,(pe4 x).2.1,(pe4 x).2.2.1,(pe3 (pe4 x))),((pe7 x.1),x.2.2.1))) qil (CE:=Unit) (E:=(List (ByteArray×Bool))) (fun c e=>((()),(((),()),e,()))) (fun c=>()) (fun{R} c a nx dn rt=>y7 c.1 c.2.1 c.2.2.1 (pe3 c) (pe4 c) (pe5 c) (pe6 c) (pe7 c) (pe8 c) (pe9 c) (pe10 c) (pf11 c) a.1 a.2 nx dn rt),qf8 _ 85 [true,true] qio (A:=(qL1×qL1×(List (ByteArray×Bool))×Int×(List ae)×Int×Int×Int×(List ae)×Int×Int)) (fun x=>(x.1.1,x.1.2.1,x.2.2.1,(pe3 x).1,(pe3 x).2.1,(pe3 x).2.2.1,(pe3 (pe3 x)),(pe4 x).1,(pe4 x).2.1,(pe4 x).2.2.1,(pe3 (pe4 x)))) qin (CE:=Unit) (E:=Unit) (fun c e=>((()),(()))) (fun c=>()) (fun{R} c dn rt=>y8 c.1 c.2.1 c.2.2.1 (pe3 c) (pe4 c) (pe5 c) (pe6 c) (pe7 c) (pe8 c) (pe9 c) (pf10 c) dn rt)],cd 85 tt [true,true] [.tmp 10] qam (fun x=>(x.1.1,x.2.2.1))⟩
theorem ub:CtxM Try.prog uc:=lq fits mixed (mC qg2 (mC fg (mC pj (mC wg (mC vi (mC ic m0))))))
theorem qj2:ba Try.prog uc 0 (lc 0 Try.f84 4863):=lp rfl ub .z s0 (fun c a=>((c.1,(),(),(),c.2.1,c.2.2.1,(pe3 c),a.1,()),(((),()),a.2,((pe4 c),(pe5 c),(pe6 c),(pe7 c),()),((pe8 c),(pe9 c),(pe10 c),(pf11 c),()),(((),()),()),()))) (fun y=>((),y.2.2.1))
theorem qj3:ba Try.prog uc 1 (jc Try.f84 31):=jn rfl ub (.two .z (.two .z (.two .z (.two .z (.two (.two .z (.s 0)) .z))))) (sC qj2 s0) (fun c=>((c.1,c.2.1,(),(),(),()),(((),()),c.2.2.1,((pe3 c),(pe4 c),(pe5 c),(pe6 c),()),((pe7 c),(pe8 c),(pe9 c),(pf10 c),()),(((),()),()),()))) (fun y=>((),()))
abbrev qbl:Mdl:=(ax (.cons (.d false a8.ty) (.cons (.d false a8.ty) (.cons (.d false qT1) (.cons (.d false qT1) (.cons (.fn 96 (.cons (.ptr 0) .nil)) .nil))))) [qqo,qmm] [true,true] 1 qam (B:=(Bool×(List (ByteArray×Bool)))) (fun b=>((b.1,()),(((),()),b.2,()))) (fun a=>qct a.1.1 a.1.2.1 a.1.2.2.1 (pe3 a.1) a.2.2.1))
theorem qip:MdlOK Try.prog 84 qbl:=li Try.func84 rfl ub (.two .z (.two .z (.two .z (.two .z (.s 1))))) (sC qj3 s0)
def td:Shp:=⟨[qkm],[qpc,qmc,qmm]⟩
abbrev qd9:Ctx ((Bool×(List (ByteArray×Bool)))):=⟨21,tt,false,false,[true,true,true],kf [(84,qbl),(81,oa)],lf [],cd 21 tt [true,true,true] [.tmp 6] td (fun x=>(x.1.1,(pe3 x)))⟩
theorem qd8:CtxM Try.prog qd9:=lq fits mixed (mC qip (mC nw m0))
abbrev ne:Mdl:=(ax (.cons (.d false ab.ty) (.cons (.rp false a8.ty) (.cons (.rp false a8.ty) (.cons (.ptr 0) (.cons (.ptr 1) .nil))))) [qpc,qmc,qmm] [true,true,true] 1 td (B:=(Bool×(List (ByteArray×Bool)))) (fun b=>((b.1,()),((((),()),()),((),()),b.2,()))) (fun a=>od a.1.1 a.1.2.1 a.1.2.2.1 (pe3 a)))
theorem qy:MdlOK Try.prog 98 ne:=li Try.func98 rfl qd8 (.two .z (.two .z (.two (.d [0,0,2,0,8,30,63] [6] []) .z))) s0
def jg:Shp:=⟨[qu0],[qpc,qmc,qmm]⟩
abbrev j9:Ctx ((Int×(List (ByteArray×Bool)))):=⟨19,tt,false,false,[true,true,true],kf [(98,ne)],lf [aw _ 19 [true,true,true] qb (C:=((List ab)×a8×a8×Int)) (S:=(Int×(List (ByteArray×Bool)))) (fun x=>((x.1.1,x.1.2.1.1,x.1.2.1.2.1,x.1.2.2.1),((pe3 x.1),(pe3 x)))) qa (CE:=Unit) (E:=(List (ByteArray×Bool))) (fun c e=>((()),((((),()),()),((),()),e,()))) (fun c=>()) (fun{R} c a nx dn rt=>io c.1 c.2.1 c.2.2.1 c.2.2.2 a.1 a.2 nx dn rt)],cd 19 tt [true,true,true] [.tmp 4] jg (fun x=>(x.1.1,(pe3 x)))⟩
theorem j7:CtxM Try.prog j9:=lq fits mixed (mC qy m0)
theorem qq:ba Try.prog j9 0 (lc 0 Try.f73 37):=lp rfl j7 .z s0 (fun c a=>((c.1,(c.2.1,c.2.2.1,(),(),()),c.2.2.2,a.1,()),((((),()),()),((),()),a.2,()))) (fun y=>((),(pe3 y)))
abbrev j8:Mdl:=(ax (.cons (.d false (.slice ab.ty)) (.cons (.fn 98 (.cons (.rp false a8.ty) (.cons (.rp false a8.ty) (.cons (.ptr 0) (.cons (.ptr 1) .nil))))) .nil)) [qpc,qmc,qmm] [true,true,true] 1 jg (B:=(Int×(List (ByteArray×Bool)))) (fun b=>((b.1,()),((((),()),()),((),()),b.2,()))) (fun a=>kl a.1.1 a.1.2.1.1 a.1.2.1.2.1 (pe3 a)))
theorem qc:MdlOK Try.prog 73 j8:=li Try.func73 rfl j7 (.two .z (.two (.two .z (.s 0)) .z)) (sC qq s0)
def im:Shp:=⟨[jdw],[qk1,q3d,q6r,qmm]⟩
abbrev jd:Ctx (((List ab)×(List (ByteArray×Bool)))):=⟨42,tt,false,false,[false,true,true,true],kf [(73,j8),(98,ne)],lf [aw _ 42 [false,true,true,true] o8 (C:=(a8×a8)) (S:=(Int×Int×(List ab)×(List (ByteArray×Bool)))) (fun x=>((x.1.2.1.1,x.1.2.1.2.1),(x.1.2.2.1,(pe3 x.1),x.2.1,(pe4 x)))) o7 (CE:=Unit) (E:=(Int×(List ab)×(List (ByteArray×Bool)))) (fun c e=>(((),e.1,()),(e.2.1,(((),()),()),((),()),e.2.2,()))) (fun c=>()) (fun{R} c a nx dn rt=>gq c.1 c.2 a.1 a.2.1 a.2.2.1 a.2.2.2 nx dn rt)],cd 42 tt [false,true,true,true] [.tmp 4] im (fun x=>(x.2.1,(pe4 x)))⟩
theorem ja:CtxM Try.prog jd:=lq fits mixed (mC qc (mC qy m0))
theorem pz:ba Try.prog jd 0 (lc 0 Try.f97 151):=lp rfl ja .z s0 (fun c a=>(((),(c.1,c.2,(),(),()),a.1,a.2.1,()),(a.2.2.1,(((),()),()),((),()),a.2.2.2,()))) (fun y=>((),(y.1.2.1,y.2.1,(pe4 y))))
abbrev jb:Mdl:=(ax (.cons (.own 0) (.cons (.fn 98 (.cons (.rp false a8.ty) (.cons (.rp false a8.ty) (.cons (.ptr 1) (.cons (.ptr 2) .nil))))) .nil)) [qk1,q3d,q6r,qmm] [false,true,true,true] 1 im (B:=((List ab)×(List (ByteArray×Bool)))) (fun b=>(((),()),(b.1,(((),()),()),((),()),b.2,()))) (fun a=>jz a.1.2.1.1 a.1.2.1.2.1 a.2.1 (pe4 a)))
theorem o9:MdlOK Try.prog 97 jb:=li Try.func97 rfl ja (.two .z (.two .z (.two .z (.two (.two .z (.s 0)) .z)))) (sC pz s0)
def qah:Shp:=⟨[(0, .own 2)],[qkw,qkw,qk1]⟩
abbrev og:Ctx ((qL2×qL2×(List ab))):=⟨55,tt,false,false,[true,true],kf [(81,oa),(97,jb)],lf [aw _ 55 [true,true] qh4 (C:=(qL1×Int×Int×Int×qL2×qL2×Int×(List ae)×Int×Int×Int×(List ae)×Int×Int)) (S:=(Int×(List ab)×(List (ByteArray×Bool)))) (fun x=>(((pe5 x.1),(pe7 x.1),(pe8 x.1),(pe10 x.1),x.2.1,x.2.2.1,(pe3 x).1,(pe3 x).2.1,(pe3 x).2.2.1,(pe3 (pe3 x)),(pe4 x).1,(pe4 x).2.1,(pe4 x).2.2.1,(pe3 (pe4 x))),((pe11 x.1),(pe5 x),(pe7 x)))) qh3 (CE:=(Int×Int×qL2×qL2×Int×(List ae)×Int×Int×Int×(List ae)×Int×Int)) (E:=((List ab)×(List (ByteArray×Bool)))) (fun c e=>(((),(),(),(),(),(),c.1,c.2.1,()),(c.2.2.1,(pe3 c),((pe4 c),(pe5 c),(pe6 c),(pe7 c),()),((pe8 c),(pe9 c),(pe10 c),(pf11 c),()),e.1,((),()),e.2,()))) (fun c=>(c.2.1,c.2.2.1,(pe4 c),(pe5 c),(pe6 c),(pe7 c),(pe8 c),(pe9 c),(pe10 c),(pe11 c),(pe12 c),(pf13 c))) (fun{R} c a nx dn rt=>yz c.1 c.2.1 c.2.2.1 (pe3 c) (pe4 c) (pe5 c) (pe6 c) (pe7 c) (pe8 c) (pe9 c) (pe10 c) (pe11 c) (pe12 c) (pf13 c) a.1 a.2.1 a.2.2 nx dn rt),aw _ 55 [true,true] qh6 (C:=(Int×qL2×qL2×Int×(List ae)×Int×Int×Int×(List ae)×Int×Int)) (S:=(Int×(List ab)×(List (ByteArray×Bool)))) (fun x=>(((pe6 x.1),x.2.1,x.2.2.1,(pe3 x).1,(pe3 x).2.1,(pe3 x).2.2.1,(pe3 (pe3 x)),(pe4 x).1,(pe4 x).2.1,(pe4 x).2.2.1,(pe3 (pe4 x))),((pe7 x.1),(pe5 x),(pe7 x)))) qh5 (CE:=(qL2×qL2×Int×(List ae)×Int×Int×Int×(List ae)×Int×Int)) (E:=((List ab)×(List (ByteArray×Bool)))) (fun c e=>(((),(),(),(),()),(c.1,c.2.1,(c.2.2.1,(pe3 c),(pe4 c),(pe5 c),()),((pe6 c),(pe7 c),(pe8 c),(pf9 c),()),e.1,((),()),e.2,()))) (fun c=>(c.2.1,c.2.2.1,(pe3 c),(pe4 c),(pe5 c),(pe6 c),(pe7 c),(pe8 c),(pe9 c),(pf10 c))) (fun{R} c a nx dn rt=>y3 c.1 c.2.1 c.2.2.1 (pe3 c) (pe4 c) (pe5 c) (pe6 c) (pe7 c) (pe8 c) (pe9 c) (pf10 c) a.1 a.2.1 a.2.2 nx dn rt),aw _ 55 [true,true] qh8 (C:=(qL2×qL2×Int×(List ae)×Int×Int×Int×(List ae)×Int×Int)) (S:=(Bool×(List ab)×(List (ByteArray×Bool)))) (fun x=>((x.2.1,x.2.2.1,(pe3 x).1,(pe3 x).2.1,(pe3 x).2.2.1,(pe3 (pe3 x)),(pe4 x).1,(pe4 x).2.1,(pe4 x).2.2.1,(pe3 (pe4 x))),((pe5 x.1),(pe5 x),(pe8 x)))) qh7 (CE:=(qL2×qL2)) (E:=(List ab)) (fun c e=>(((),()),(c.1,c.2,e,()))) (fun c=>(c.1,c.2.1)) (fun{R} c a nx dn rt=>y4 c.1 c.2.1 c.2.2.1 (pe3 c) (pe4 c) (pe5 c) (pe6 c) (pe7 c) (pe8 c) (pf9 c) a.1 a.2.1 a.2.2 nx dn rt)],cd 55 tt [true,true] [.tmp 8] qah (fun x=>(x.2.1,x.2.2.1,(pe3 x)))⟩
theorem oe:CtxM Try.prog og:=lq fits mixed (mC nw (mC o9 m0))
theorem qjw:ba Try.prog og 0 (lc 2 Try.f68 39319):=lp rfl oe (.two .z (.two .z (.two (.one (.two .z (.two .z (.d [0,0,0,6,15] [4] [])))) .z))) s0 (fun c a=>(((),(),(),(),(),c.1,(),c.2.1,c.2.2.1,(),(pe3 c),a.1,()),((pe4 c),(pe5 c),((pe6 c),(pe7 c),(pe8 c),(pe9 c),()),((pe10 c),(pe11 c),(pe12 c),(pf13 c),()),a.2.1,((),()),a.2.2,()))) (fun y=>(((pe6 y.1),(pe7 y.1),y.2.1,y.2.2.1,(pe3 y).1,(pe3 y).2.1,(pe3 y).2.2.1,(pe3 (pe3 y)),(pe4 y).1,(pe4 y).2.1,(pe4 y).2.2.1,(pe3 (pe4 y))),((pe5 y),(pe7 y))))
theorem qjy:ba Try.prog og 2 (lc 4 Try.f68 607):=lp rfl oe .z s0 (fun c a=>(((),(),(),(),(),a.1,()),(c.1,c.2.1,(c.2.2.1,(pe3 c),(pe4 c),(pe5 c),()),((pe6 c),(pe7 c),(pe8 c),(pf9 c),()),a.2.1,((),()),(((),()),()),a.2.2,()))) (fun y=>((y.2.1,y.2.2.1),(pe3 y)))
theorem qjx:ba Try.prog og 1 (lc 0 Try.f68 151):=lp rfl oe (.two .z (.two .z (.two (.one (.two .z (.two .z (.s 0)))) .z))) (sC qjw s0) (fun c a=>(((),(),(),(),(),(),c.1,a.1,()),(c.2.1,c.2.2.1,((pe3 c),(pe4 c),(pe5 c),(pe6 c),()),((pe7 c),(pe8 c),(pe9 c),(pf10 c),()),a.2.1,((),()),a.2.2,()))) (fun y=>((y.2.1,y.2.2.1,(pe3 y).1,(pe3 y).2.1,(pe3 y).2.2.1,(pe3 (pe3 y)),(pe4 y).1,(pe4 y).2.1,(pe4 y).2.2.1,(pe3 (pe4 y))),((pe5 y),(pe7 y))))
abbrev qbi:Mdl:=(ax (.cons (.d false a8.ty) (.cons (.d false a8.ty) (.cons (.own 0) (.cons (.own 1) .nil)))) [qkw,qkw] [true,true] 1 qah (B:=(qL2×qL2×(List ab))) (fun b=>(((),()),(b.1,b.2.1,b.2.2,()))) (fun a=>qcs a.1.1 a.1.2.1 a.2.1 a.2.2.1))
theorem qib:MdlOK Try.prog 68 qbi:=li Try.func68 rfl oe (.two .z (.two .z (.two .z (.two (.two .z (.s 1)) (.two .z (.two (.two .z (.s 2)) .z)))))) (sC qjx (sC qjy s0))
def qcr:Shp:=⟨[qkm],[]⟩
abbrev qpq:Ctx (Bool):=⟨16,tt,false,false,[],kf [(19,eo)],lf [],cd 16 tt [] [.tmp 4] qcr (fun x=>x.1.1)⟩
theorem qpp:CtxM Try.prog qpq:=lq fits mixed (mC fg m0)
abbrev qey:Mdl:=(ax (.cons (.d false ab.ty) (.cons (.rp false qT1) (.cons (.rp false af.ty) .nil))) [] [] 1 qcr (B:=Bool) (fun b=>((b,()),(()))) (fun a=>qgh a.1.1 a.1.2.1 a.1.2.2.1))
theorem qlf:MdlOK Try.prog 69 qey:=li Try.func69 rfl qpp .z s0
def k9:Shp:=⟨[qu0],[]⟩
abbrev l7:Ctx (Int):=⟨19,tt,false,false,[],kf [(69,qey)],lf [aw _ 19 [] sx (C:=((List ab)×qL1×af×Int)) (S:=Int) (fun x=>((x.1.1,x.1.2.1.1,x.1.2.1.2.1,x.1.2.2.1),(pe3 x.1))) sw (CE:=Unit) (E:=Unit) (fun c e=>((()),(()))) (fun c=>()) (fun{R} c a nx dn rt=>kj c.1 c.2.1 c.2.2.1 c.2.2.2 a nx dn rt)],cd 19 tt [] [.tmp 4] k9 (fun x=>x.1.1)⟩
theorem l5:CtxM Try.prog l7:=lq fits mixed (mC qlf m0)
theorem tp:ba Try.prog l7 0 (lc 0 Try.f73 37):=lp rfl l5 .z s0 (fun c a=>((c.1,(c.2.1,c.2.2.1,()),c.2.2.2,a,()),(()))) (fun y=>((),()))
abbrev l6:Mdl:=(ax (.cons (.d false (.slice ab.ty)) (.cons (.fn 69 (.cons (.rp false qT1) (.cons (.rp false af.ty) .nil))) .nil)) [] [] 1 k9 (B:=Int) (fun b=>((b,()),(()))) (fun a=>mi a.1.1 a.1.2.1.1 a.1.2.1.2.1))
theorem sy:MdlOK Try.prog 73 l6:=li Try.func73 rfl l5 (.two .z (.two (.two .z (.s 0)) .z)) (sC tp s0)
def i3:Shp:=⟨[qkm],[]⟩
abbrev rk:Ctx (Bool):=⟨9,tt,false,false,[],kf [(73,l6)],lf [],cd 9 tt [] [.tmp 4] i3 (fun x=>x.1.1)⟩
theorem rj:CtxM Try.prog rk:=lq fits mixed (mC sy m0)
abbrev jx:Mdl:=(ax (.cons (.d false (.slice ab.ty)) (.cons (.fn 69 (.cons (.rp false qT1) (.cons (.rp false af.ty) .nil))) .nil)) [] [] 1 i3 (B:=Bool) (fun b=>((b,()),(()))) (fun a=>kh a.1.1 a.1.2.1.1 a.1.2.1.2.1))
theorem pu:MdlOK Try.prog 36 jx:=li Try.func36 rfl rj .z s0
def qgg:Shp:=⟨[(0, .d true ck.ty),q8m],[]⟩
abbrev xd:Ctx ((ck×Int)):=⟨138,tt,false,true,[],kf [(58,qgi),(59,qap),(65,c0),(67,qgq),(68,qbi),(36,jx),(50,f9)],lf [aw _ 138 [] qpi (C:=(Int×(List af)×(List af)×Int×Int×(List ae)×Int×Int×Int×(List ae)×Int×Int×qL1×qL1×(List ab)×qL1)) (S:=(Int×qL2)) (fun x=>((x.1.1,(pe5 x.1),(pe7 x.1),(pe8 x.1),x.2.1.1,x.2.1.2.1,x.2.1.2.2.1,(pe3 x.2.1),x.2.2.1.1,x.2.2.1.2.1,x.2.2.1.2.2.1,(pe3 x.2.2.1),(pe3 x).1,(pe3 x).2.1,(pe3 x).2.2.1,(pe4 x).1),((pe9 x.1),(pe5 x)))) qph (CE:=(Int×(List af)×Int×(List ae)×Int×Int×Int×(List ae)×Int×Int×qL1×qL1×(List ab)×qL1)) (E:=qL2) (fun c e=>((c.1,(),(),(),(),c.2.1,(),()),((c.2.2.1,(pe3 c),(pe4 c),(pe5 c),()),((pe6 c),(pe7 c),(pe8 c),(pe9 c),()),((pe10 c),(pe11 c),(pe12 c),()),((pf13 c),()),e,()))) (fun c=>(c.1,c.2.1,(pe4 c),(pe5 c),(pe6 c),(pe7 c),(pe8 c),(pe9 c),(pe10 c),(pe11 c),(pe12 c),(pe13 c),(pe14 c),(pf15 c))) (fun{R} c a nx dn rt=>qev c.1 c.2.1 c.2.2.1 (pe3 c) (pe4 c) (pe5 c) (pe6 c) (pe7 c) (pe8 c) (pe9 c) (pe10 c) (pe11 c) (pe12 c) (pe13 c) (pe14 c) (pf15 c) a.1 a.2 nx dn rt),aw _ 138 [] qpk (C:=((List ab)×Int×qL1×qL1×(List ab)×qL1×qL1)) (S:=(Int×(List ab))) (fun x=>((x.1.2.2.1,(pe3 x.1),x.2.1.1,x.2.1.2.1,x.2.1.2.2.1,x.2.2.1.1,x.2.2.1.2.1),((pe4 x.1),(pe3 x)))) qpj (CE:=(qL1×qL1×(List ab)×qL1×qL1)) (E:=(List ab)) (fun c e=>(((),(),()),((c.1,c.2.1,c.2.2.1,()),((pe3 c),(pf4 c),(),()),e,()))) (fun c=>(c.2.2.1,(pe3 c),(pe4 c),(pe5 c),(pf6 c))) (fun{R} c a nx dn rt=>qew c.1 c.2.1 c.2.2.1 (pe3 c) (pe4 c) (pe5 c) (pf6 c) a.1 a.2 nx dn rt),aw _ 138 [] qpm (C:=((List ab)×(List af)×Int×qL1×qL1×(List ab)×qL1)) (S:=Int) (fun x=>((x.1.2.2.1,(pe3 x.1),(pe4 x.1),x.2.1.1,x.2.1.2.1,x.2.1.2.2.1,x.2.2.1.1),(pe5 x.1))) qpl (CE:=(qL1×qL1×(List ab))) (E:=Unit) (fun c e=>(((),()),((c.1,c.2.1,c.2.2,()),()))) (fun c=>((pe3 c),(pe4 c),(pe5 c))) (fun{R} c a nx dn rt=>qex c.1 c.2.1 c.2.2.1 (pe3 c) (pe4 c) (pe5 c) (pf6 c) a nx dn rt)],cd 138 tt [] [.cell 8 28, .tmp 9] qgg (fun x=>(x.1.1,x.1.2.1))⟩
theorem xc:CtxM Try.prog xd:=lq fits mixed (mC qmy (mC qgp (mC gk (mC qnb (mC qib (mC pu (mC il m0)))))))
theorem qr3:ba Try.prog xd 1 (lc 4 Try.f31 313733119):=lp rfl xc (.two .z (.two .z (.two (.one (.two .z (.d [0,1,0,4,12,0,32,124,252,508,1023,2047,4095] [10,12] []))) .z))) s0 (fun c a=>(((),(),c.1,c.2.1,a.1,()),((c.2.2.1,(pe3 c),(pe4 c),()),((pe5 c),(pf6 c),(),()),a.2,()))) (fun y=>((y.2.1.1,y.2.1.2.1,y.2.1.2.2.1,y.2.2.1.1,y.2.2.1.2.1),(pe3 y)))
theorem qr4:ba Try.prog xd 2 (lc 2 Try.f31 77823):=lp rfl xc (.two .z (.two .z (.two (.one (.two .z (.two .z (.two (.two (.d [0,1,3,0,8,31,0,127] [7] []) (.two (.two .z (.s 1)) .z)) .z)))) .z))) (sC qr3 s0) (fun c a=>(((),(),c.1,c.2.1,c.2.2.1,a,()),(((pe3 c),(pe4 c),(pe5 c),()),((pf6 c),()),()))) (fun y=>((y.2.1.1,y.2.1.2.1,y.2.1.2.2.1),()))
theorem qr2:ba Try.prog xd 0 (lc 0 Try.f31 2431):=lp rfl xc .z s0 (fun c a=>((c.1,(),(),(),(),c.2.1,(),c.2.2.1,(pe3 c),a.1,()),(((pe4 c),(pe5 c),(pe6 c),(pe7 c),()),((pe8 c),(pe9 c),(pe10 c),(pe11 c),()),((pe12 c),(pe13 c),(pe14 c),()),((pf15 c),()),a.2,()))) (fun y=>((y.1.1,(pe5 y.1),y.2.1.1,y.2.1.2.1,y.2.1.2.2.1,(pe3 y.2.1),y.2.2.1.1,y.2.2.1.2.1,y.2.2.1.2.2.1,(pe3 y.2.2.1),(pe3 y).1,(pe3 y).2.1,(pe3 y).2.2.1,(pe4 y).1),(pe5 y)))
abbrev qi2:Mdl:=(ax (.cons (.d false a8.ty) (.cons (.d false a8.ty) (.cons (.d false qT1) (.cons (.d false qT0) .nil)))) [] [] 2 qgg (B:=(ck×Int)) (fun b=>((b.1,b.2,()),(()))) (fun a=>qd7 a.1.1 a.1.2.1 a.1.2.2.1 (pe3 a.1)))
theorem qpr:MdlOK Try.prog 31 qi2:=li Try.func31 rfl xc (.two .z (.two .z (.two .z (.two .z (.two .z (.two .z (.two .z (.two (.two .z (.s 0)) (.two .z (.two .z (.two .z (.two .z (.two (.two .z (.s 2)) .z))))))))))))) (sC qr2 (sC qr4 s0))
def qbm:Shp:=⟨[qkm],[]⟩
abbrev qm2:Ctx (Bool):=⟨15,tt,false,false,[],kf [(103,ug)],lf [],cd 15 tt [] [.tmp 4] qbm (fun x=>x.1.1)⟩
theorem qm1:CtxM Try.prog qm2:=lq fits mixed (mC wg m0)
abbrev qcu:Mdl:=(ax (.cons (.d false a8.ty) (.cons (.d false qT1) .nil)) [] [] 1 qbm (B:=Bool) (fun b=>((b,()),(()))) (fun a=>nv a.1.1 a.1.2.1))
theorem qj4:MdlOK Try.prog 78 qcu:=li Try.func78 rfl qm1 .z s0
def qbp:Shp:=⟨[qkm],[]⟩
abbrev qnf:Ctx (Bool):=⟨17,tt,false,false,[],kf [(78,qcu)],lf [],cd 17 tt [] [.tmp 4] qbp (fun x=>x.1.1)⟩
theorem qne:CtxM Try.prog qnf:=lq fits mixed (mC qj4 m0)
abbrev qc1:Mdl:=(ax (.cons (.d false ab.ty) (.cons (.rp false a8.ty) (.cons (.rp false a8.ty) .nil))) [] [] 1 qbp (B:=Bool) (fun b=>((b,()),(()))) (fun a=>yl a.1.1 a.1.2.1 a.1.2.2.1))
theorem qj6:MdlOK Try.prog 77 qc1:=li Try.func77 rfl qne .z s0
def lb:Shp:=⟨[qu0],[]⟩
abbrev ma:Ctx (Int):=⟨19,tt,false,false,[],kf [(77,qc1)],lf [aw _ 19 [] s6 (C:=((List ab)×a8×a8×Int)) (S:=Int) (fun x=>((x.1.1,x.1.2.1.1,x.1.2.1.2.1,x.1.2.2.1),(pe3 x.1))) s5 (CE:=Unit) (E:=Unit) (fun c e=>((()),(()))) (fun c=>()) (fun{R} c a nx dn rt=>cx c.1 c.2.1 c.2.2.1 c.2.2.2 a nx dn rt)],cd 19 tt [] [.tmp 4] lb (fun x=>x.1.1)⟩
theorem l8:CtxM Try.prog ma:=lq fits mixed (mC qj6 m0)
theorem tq:ba Try.prog ma 0 (lc 0 Try.f73 37):=lp rfl l8 .z s0 (fun c a=>((c.1,(c.2.1,c.2.2.1,()),c.2.2.2,a,()),(()))) (fun y=>((),()))
abbrev l9:Mdl:=(ax (.cons (.d false (.slice ab.ty)) (.cons (.fn 77 (.cons (.rp false a8.ty) (.cons (.rp false a8.ty) .nil))) .nil)) [] [] 1 lb (B:=Int) (fun b=>((b,()),(()))) (fun a=>f5 a.1.1 a.1.2.1.1 a.1.2.1.2.1))
theorem s7:MdlOK Try.prog 73 l9:=li Try.func73 rfl l8 (.two .z (.two (.two .z (.s 0)) .z)) (sC tq s0)
def i4:Shp:=⟨[qkm],[]⟩
abbrev rm:Ctx (Bool):=⟨9,tt,false,false,[],kf [(73,l9)],lf [],cd 9 tt [] [.tmp 4] i4 (fun x=>x.1.1)⟩
theorem rl:CtxM Try.prog rm:=lq fits mixed (mC s7 m0)
abbrev jy:Mdl:=(ax (.cons (.d false (.slice ab.ty)) (.cons (.fn 77 (.cons (.rp false a8.ty) (.cons (.rp false a8.ty) .nil))) .nil)) [] [] 1 i4 (B:=Bool) (fun b=>((b,()),(()))) (fun a=>ey a.1.1 a.1.2.1.1 a.1.2.1.2.1))
theorem pw:MdlOK Try.prog 36 jy:=li Try.func36 rfl rl .z s0
def qe4:Shp:=⟨[qkm],[]⟩
abbrev qr8:Ctx (Bool):=⟨11,tt,false,false,[],kf [(36,jy)],lf [],cd 11 tt [] [.tmp 6] qe4 (fun x=>x.1.1)⟩
theorem qr7:CtxM Try.prog qr8:=lq fits mixed (mC pw m0)
abbrev qgy:Mdl:=(ax (.cons (.d false a8.ty) (.cons (.d false a8.ty) (.cons (.d false (.slice ab.ty)) .nil))) [] [] 1 qe4 (B:=Bool) (fun b=>((b,()),(()))) (fun a=>xe a.1.1 a.1.2.1 a.1.2.2.1))
theorem qng:MdlOK Try.prog 44 qgy:=li Try.func44 rfl qr7 .z s0
def n4:Shp:=⟨[qkm],[]⟩
abbrev ou:Ctx (Bool):=⟨26,tt,false,false,[],kf [],lf [aw _ 26 [] x9 (C:=((List ByteArray)×(List ByteArray)×Int)) (S:=Int) (fun x=>((x.1.1,x.1.2.1,x.1.2.2.1),(pe3 x.1))) x8 (CE:=Unit) (E:=Unit) (fun c e=>((()),(()))) (fun c=>()) (fun{R} c a nx dn rt=>cq c.1 c.2.1 c.2.2 a nx dn rt)],cd 26 tt [] [.tmp 4] n4 (fun x=>x.1.1)⟩
theorem oq:CtxM Try.prog ou:=lq fits mixed m0
theorem yv:ba Try.prog ou 0 (lc 0 Try.f46 75):=lp rfl oq (.two .z (.two .z (.two (.one (.two .z (.two (.d [0,0,3,7,0,0,48,112,255] [] []) .z))) .z))) s0 (fun c a=>((c.1,c.2.1,c.2.2,a,()),(()))) (fun y=>((),()))
abbrev ot:Mdl:=(ax (.cons (.d false (.slice .str)) (.cons (.d false (.slice .str)) .nil)) [] [] 1 n4 (B:=Bool) (fun b=>((b,()),(()))) (fun a=>fl a.1.1 a.1.2.1))
theorem ya:MdlOK Try.prog 46 ot:=li Try.func46 rfl oq (.two .z (.two .z (.two (.two .z (.s 0)) .z))) (sC yv s0)
def qbg:Shp:=⟨[qkm],[]⟩
abbrev qmx:Ctx (Bool):=⟨15,tt,false,false,[],kf [(19,eo)],lf [],cd 15 tt [] [.tmp 4] qbg (fun x=>x.1.1)⟩
theorem qmw:CtxM Try.prog qmx:=lq fits mixed (mC fg m0)
abbrev qco:Mdl:=(ax (.cons (.d false ab.ty) (.cons (.rp false qT1) (.cons (.rp false qT1) .nil))) [] [] 1 qbg (B:=Bool) (fun b=>((b,()),(()))) (fun a=>yi a.1.1 a.1.2.1 a.1.2.2.1))
theorem qjs:MdlOK Try.prog 47 qco:=li Try.func47 rfl qmw .z s0
def k8:Shp:=⟨[qu0],[]⟩
abbrev l4:Ctx (Int):=⟨19,tt,false,false,[],kf [(47,qco)],lf [aw _ 19 [] ss (C:=((List ab)×qL1×qL1×Int)) (S:=Int) (fun x=>((x.1.1,x.1.2.1.1,x.1.2.1.2.1,x.1.2.2.1),(pe3 x.1))) sr (CE:=Unit) (E:=Unit) (fun c e=>((()),(()))) (fun c=>()) (fun{R} c a nx dn rt=>cw c.1 c.2.1 c.2.2.1 c.2.2.2 a nx dn rt)],cd 19 tt [] [.tmp 4] k8 (fun x=>x.1.1)⟩
theorem l0:CtxM Try.prog l4:=lq fits mixed (mC qjs m0)
theorem tm:ba Try.prog l4 0 (lc 0 Try.f73 37):=lp rfl l0 .z s0 (fun c a=>((c.1,(c.2.1,c.2.2.1,()),c.2.2.2,a,()),(()))) (fun y=>((),()))
abbrev l3:Mdl:=(ax (.cons (.d false (.slice ab.ty)) (.cons (.fn 47 (.cons (.rp false qT1) (.cons (.rp false qT1) .nil))) .nil)) [] [] 1 k8 (B:=Int) (fun b=>((b,()),(()))) (fun a=>fy a.1.1 a.1.2.1.1 a.1.2.1.2.1))
theorem su:MdlOK Try.prog 73 l3:=li Try.func73 rfl l0 (.two .z (.two (.two .z (.s 0)) .z)) (sC tm s0)
def iz:Shp:=⟨[qkm],[]⟩
abbrev ri:Ctx (Bool):=⟨9,tt,false,false,[],kf [(73,l3)],lf [],cd 9 tt [] [.tmp 4] iz (fun x=>x.1.1)⟩
theorem rh:CtxM Try.prog ri:=lq fits mixed (mC su m0)
abbrev jw:Mdl:=(ax (.cons (.d false (.slice ab.ty)) (.cons (.fn 47 (.cons (.rp false qT1) (.cons (.rp false qT1) .nil))) .nil)) [] [] 1 iz (B:=Bool) (fun b=>((b,()),(()))) (fun a=>ct a.1.1 a.1.2.1.1 a.1.2.1.2.1))
theorem pt:MdlOK Try.prog 36 jw:=li Try.func36 rfl rh .z s0
def vj:Shp:=⟨[qkm],[qqo,qmm]⟩
abbrev qgu:Ctx ((Bool×(List (ByteArray×Bool)))):=⟨11,tt,false,false,[true,true],kf [(81,oa)],lf [],cd 11 tt [true,true] [.tmp 5] vj (fun x=>(x.1.1,x.2.2.1))⟩
theorem qgt:CtxM Try.prog qgu:=lq fits mixed (mC nw m0)
abbrev oy:Mdl:=(ax (.cons (.d false qT1) (.cons (.d false qT1) (.cons (.ptr 0) .nil))) [qqo,qmm] [true,true] 1 vj (B:=(Bool×(List (ByteArray×Bool)))) (fun b=>((b.1,()),(((),()),b.2,()))) (fun a=>iw a.1.1 a.1.2.1 a.2.2.1))
theorem uf:MdlOK Try.prog 82 oy:=li Try.func82 rfl qgt (.two .z (.two (.d [0,0,0,6,15,31] [] []) .z)) s0
def xy:Shp:=⟨[qkm],[qo4,qmc,qmm]⟩
abbrev qid:Ctx ((Bool×(List (ByteArray×Bool)))):=⟨24,tt,false,false,[true,true,true],kf [(82,oy)],lf [],cd 24 tt [true,true,true] [.tmp 6] xy (fun x=>(x.1.1,(pe3 x)))⟩
theorem qic:CtxM Try.prog qid:=lq fits mixed (mC uf m0)
abbrev y5:Mdl:=(ax (.cons (.d false ag.ty) (.cons (.rp false a8.ty) (.cons (.rp false .str) (.cons (.ptr 0) (.cons (.rp false ag.ty) .nil))))) [qo4,qmc,qmm] [true,true,true] 1 xy (B:=(Bool×(List (ByteArray×Bool)))) (fun b=>((b.1,()),((((),()),()),((),()),b.2,()))) (fun a=>ng a.1.1 a.1.2.1 a.1.2.2.1 (pe4 a.1) (pe3 a)))
theorem qft:MdlOK Try.prog 107 y5:=li Try.func107 rfl qic (.two .z (.two (.d [0,1,0,4,15,31,63,0,255,511,1023,1023,3071,1023,9215,32767,65535,131071] [15,16,17] []) .z)) s0
def dp:Shp:=⟨[qu0],[qo4,qmc,qmm]⟩
abbrev d7:Ctx ((Int×(List (ByteArray×Bool)))):=⟨19,tt,false,false,[true,true,true],kf [(107,y5)],lf [aw _ 19 [true,true,true] jm (C:=((List ag)×a8×ByteArray×ag×Int)) (S:=(Int×(List (ByteArray×Bool)))) (fun x=>((x.1.1,x.1.2.1.1,x.1.2.1.2.1,(pe3 x.1.2.1),x.1.2.2.1),((pe3 x.1),(pe3 x)))) jl (CE:=Unit) (E:=(List (ByteArray×Bool))) (fun c e=>((()),((((),()),()),((),()),e,()))) (fun c=>()) (fun{R} c a nx dn rt=>bg c.1 c.2.1 c.2.2.1 (pe3 c) (pf4 c) a.1 a.2 nx dn rt)],cd 19 tt [true,true,true] [.tmp 4] dp (fun x=>(x.1.1,(pe3 x)))⟩
theorem dy:CtxM Try.prog d7:=lq fits mixed (mC qft m0)
theorem kb:ba Try.prog d7 0 (lc 0 Try.f118 37):=lp rfl dy .z s0 (fun c a=>((c.1,(c.2.1,c.2.2.1,(),(pe3 c),()),(pf4 c),a.1,()),((((),()),()),((),()),a.2,()))) (fun y=>((),(pe3 y)))
abbrev dz:Mdl:=(ax (.cons (.d false (.slice ag.ty)) (.cons (.fn 107 (.cons (.rp false a8.ty) (.cons (.rp false .str) (.cons (.ptr 0) (.cons (.rp false ag.ty) .nil))))) .nil)) [qo4,qmc,qmm] [true,true,true] 1 dp (B:=(Int×(List (ByteArray×Bool)))) (fun b=>((b.1,()),((((),()),()),((),()),b.2,()))) (fun a=>b9 a.1.1 a.1.2.1.1 a.1.2.1.2.1 (pe3 a.1.2.1) (pe3 a)))
theorem jo:MdlOK Try.prog 118 dz:=li Try.func118 rfl dy (.two .z (.two (.two .z (.s 0)) .z)) (sC kb s0)
def c8:Shp:=⟨[qkm],[qo4,qmc,qmm]⟩
abbrev i6:Ctx ((Bool×(List (ByteArray×Bool)))):=⟨9,tt,false,false,[true,true,true],kf [(118,dz)],lf [],cd 9 tt [true,true,true] [.tmp 4] c8 (fun x=>(x.1.1,(pe3 x)))⟩
theorem i5:CtxM Try.prog i6:=lq fits mixed (mC jo m0)
abbrev dg:Mdl:=(ax (.cons (.d false (.slice ag.ty)) (.cons (.fn 107 (.cons (.rp false a8.ty) (.cons (.rp false .str) (.cons (.ptr 0) (.cons (.rp false ag.ty) .nil))))) .nil)) [qo4,qmc,qmm] [true,true,true] 1 c8 (B:=(Bool×(List (ByteArray×Bool)))) (fun b=>((b.1,()),((((),()),()),((),()),b.2,()))) (fun a=>aq a.1.1 a.1.2.1.1 a.1.2.1.2.1 (pe3 a.1.2.1) (pe3 a)))
theorem ib:MdlOK Try.prog 106 dg:=li Try.func106 rfl i5 .z s0
def qal:Shp:=⟨[qkm],[qqo,qmm]⟩
abbrev ua:Ctx ((Bool×(List (ByteArray×Bool)))):=⟨85,tt,false,false,[true,true],kf [(105,qeb),(19,eo),(94,oz),(103,ug),(82,oy),(106,dg)],lf [aw _ 85 [true,true] qih (C:=(qL1×(List ag)×(List ag)×Int×Int×(List ae)×Int×Int×Int×(List ae)×Int×Int)) (S:=(Int×(List (ByteArray×Bool)))) (fun x=>((x.1.1,(pe4 x.1),(pe5 x.1),(pe6 x.1),(pe3 x).1,(pe3 x).2.1,(pe3 x).2.2.1,(pe3 (pe3 x)),(pe4 x).1,(pe4 x).2.1,(pe4 x).2.2.1,(pe3 (pe4 x))),((pe7 x.1),x.2.2.1))) qig (CE:=Unit) (E:=(List (ByteArray×Bool))) (fun c e=>((()),(((),()),e,()))) (fun c=>()) (fun{R} c a nx dn rt=>fm c.1 c.2.1 c.2.2.1 (pe3 c) (pe4 c) (pe5 c) (pe6 c) (pe7 c) (pe8 c) (pe9 c) (pe10 c) (pf11 c) a.1 a.2 nx dn rt),qf8 _ 85 [true,true] qij (A:=(qL1×qL1×(List (ByteArray×Bool))×Int×(List ae)×Int×Int×Int×(List ae)×Int×Int)) (fun x=>(x.1.1,x.1.2.1,x.2.2.1,(pe3 x).1,(pe3 x).2.1,(pe3 x).2.2.1,(pe3 (pe3 x)),(pe4 x).1,(pe4 x).2.1,(pe4 x).2.2.1,(pe3 (pe4 x)))) qii (CE:=Unit) (E:=Unit) (fun c e=>((()),(()))) (fun c=>()) (fun{R} c dn rt=>qn c.1 c.2.1 c.2.2.1 (pe3 c) (pe4 c) (pe5 c) (pe6 c) (pe7 c) (pe8 c) (pe9 c) (pf10 c) dn rt)],cd 85 tt [true,true] [.tmp 10] qal (fun x=>(x.1.1,x.2.2.1))⟩
theorem t8:CtxM Try.prog ua:=lq fits mixed (mC qg2 (mC fg (mC pj (mC wg (mC uf (mC ib m0))))))
theorem qjz:ba Try.prog ua 0 (lc 0 Try.f84 4863):=lp rfl t8 .z s0 (fun c a=>((c.1,(),(),(),c.2.1,c.2.2.1,(pe3 c),a.1,()),(((),()),a.2,((pe4 c),(pe5 c),(pe6 c),(pe7 c),()),((pe8 c),(pe9 c),(pe10 c),(pf11 c),()),(((),()),()),()))) (fun y=>((),y.2.2.1))
theorem qj0:ba Try.prog ua 1 (jc Try.f84 31):=jn rfl t8 (.two .z (.two .z (.two .z (.two .z (.two (.two .z (.s 0)) .z))))) (sC qjz s0) (fun c=>((c.1,c.2.1,(),(),(),()),(((),()),c.2.2.1,((pe3 c),(pe4 c),(pe5 c),(pe6 c),()),((pe7 c),(pe8 c),(pe9 c),(pf10 c),()),(((),()),()),()))) (fun y=>((),()))
abbrev qbk:Mdl:=(ax (.cons (.d false a8.ty) (.cons (.d false a8.ty) (.cons (.d false qT1) (.cons (.d false qT1) (.cons (.fn 82 (.cons (.ptr 0) .nil)) .nil))))) [qqo,qmm] [true,true] 1 qal (B:=(Bool×(List (ByteArray×Bool)))) (fun b=>((b.1,()),(((),()),b.2,()))) (fun a=>ph a.1.1 a.1.2.1 a.1.2.2.1 (pe3 a.1) a.2.2.1))
theorem qik:MdlOK Try.prog 84 qbk:=li Try.func84 rfl t8 (.two .z (.two .z (.two .z (.two .z (.s 1))))) (sC qj0 s0)
def qz:Shp:=⟨[qkm],[qo4,qmc,qmm]⟩
abbrev qc0:Ctx ((Bool×(List (ByteArray×Bool)))):=⟨15,tt,false,false,[true,true,true],kf [(84,qbk)],lf [],cd 15 tt [true,true,true] [.tmp 5] qz (fun x=>(x.1.1,(pe3 x)))⟩
theorem qcz:CtxM Try.prog qc0:=lq fits mixed (mC qik m0)
abbrev te:Mdl:=(ax (.cons (.d false ab.ty) (.cons (.rp false a8.ty) (.cons (.rp false a8.ty) (.cons (.ptr 0) .nil)))) [qo4,qmc,qmm] [true,true,true] 1 qz (B:=(Bool×(List (ByteArray×Bool)))) (fun b=>((b.1,()),((((),()),()),((),()),b.2,()))) (fun a=>ni a.1.1 a.1.2.1 a.1.2.2.1 (pe3 a)))
theorem qa5:MdlOK Try.prog 83 te:=li Try.func83 rfl qcz .z s0
def jf:Shp:=⟨[qu0],[qo4,qmc,qmm]⟩
abbrev j6:Ctx ((Int×(List (ByteArray×Bool)))):=⟨19,tt,false,false,[true,true,true],kf [(83,te)],lf [aw _ 19 [true,true,true] p8 (C:=((List ab)×a8×a8×Int)) (S:=(Int×(List (ByteArray×Bool)))) (fun x=>((x.1.1,x.1.2.1.1,x.1.2.1.2.1,x.1.2.2.1),((pe3 x.1),(pe3 x)))) p0 (CE:=Unit) (E:=(List (ByteArray×Bool))) (fun c e=>((()),((((),()),()),((),()),e,()))) (fun c=>()) (fun{R} c a nx dn rt=>cf c.1 c.2.1 c.2.2.1 c.2.2.2 a.1 a.2 nx dn rt)],cd 19 tt [true,true,true] [.tmp 4] jf (fun x=>(x.1.1,(pe3 x)))⟩
theorem j4:CtxM Try.prog j6:=lq fits mixed (mC qa5 m0)
theorem qo:ba Try.prog j6 0 (lc 0 Try.f73 37):=lp rfl j4 .z s0 (fun c a=>((c.1,(c.2.1,c.2.2.1,(),()),c.2.2.2,a.1,()),((((),()),()),((),()),a.2,()))) (fun y=>((),(pe3 y)))
abbrev j5:Mdl:=(ax (.cons (.d false (.slice ab.ty)) (.cons (.fn 83 (.cons (.rp false a8.ty) (.cons (.rp false a8.ty) (.cons (.ptr 0) .nil)))) .nil)) [qo4,qmc,qmm] [true,true,true] 1 jf (B:=(Int×(List (ByteArray×Bool)))) (fun b=>((b.1,()),((((),()),()),((),()),b.2,()))) (fun a=>ez a.1.1 a.1.2.1.1 a.1.2.1.2.1 (pe3 a)))
theorem p9:MdlOK Try.prog 73 j5:=li Try.func73 rfl j4 (.two .z (.two (.two .z (.s 0)) .z)) (sC qo s0)
def zb:Shp:=⟨[qu0],[]⟩
abbrev qas:Ctx (Int):=⟨29,tt,false,false,[],kf [(81,oa),(73,j5)],lf [aw _ 29 [] qgs (C:=((List ab)×(List ab)×Int×Int×(List ae)×Int×Int×Int×(List ae)×Int×Int)) (S:=(Int×(List (ByteArray×Bool)))) (fun x=>((x.1.1,(pe4 x.1),(pe5 x.1),x.2.1.1,x.2.1.2.1,x.2.1.2.2.1,(pe3 x.2.1),x.2.2.1.1,x.2.2.1.2.1,x.2.2.1.2.2.1,(pe3 x.2.2.1)),((pe6 x.1),(pe4 x)))) qgr (CE:=((List ab)×Int×(List ae)×Int×Int×Int×(List ae)×Int×Int)) (E:=(List (ByteArray×Bool))) (fun c e=>((c.1,(),(),(),()),((c.2.1,c.2.2.1,(pe3 c),(pe4 c),()),((pe5 c),(pe6 c),(pe7 c),(pf8 c),()),((),()),e,()))) (fun c=>(c.1,(pe3 c),(pe4 c),(pe5 c),(pe6 c),(pe7 c),(pe8 c),(pe9 c),(pf10 c))) (fun{R} c a nx dn rt=>ln c.1 c.2.1 c.2.2.1 (pe3 c) (pe4 c) (pe5 c) (pe6 c) (pe7 c) (pe8 c) (pe9 c) (pf10 c) a.1 a.2 nx dn rt)],cd 29 tt [] [.tmp 6] zb (fun x=>x.1.1)⟩
theorem qaq:CtxM Try.prog qas:=lq fits mixed (mC nw (mC p9 m0))
theorem qiu:ba Try.prog qas 0 (lc 0 Try.f48 75):=lp rfl qaq (.two .z (.two .z (.two (.one (.two .z (.d [0,0,2,0,8,30,63] [6] []))) .z))) s0 (fun c a=>((c.1,(),(),(),c.2.1,c.2.2.1,a.1,()),(((pe3 c),(pe4 c),(pe5 c),(pe6 c),()),((pe7 c),(pe8 c),(pe9 c),(pf10 c),()),((),()),a.2,()))) (fun y=>((y.1.1,y.2.1.1,y.2.1.2.1,y.2.1.2.2.1,(pe3 y.2.1),y.2.2.1.1,y.2.2.1.2.1,y.2.2.1.2.2.1,(pe3 y.2.2.1)),(pe4 y)))
abbrev qar:Mdl:=(ax (.cons (.d false a8.ty) (.cons (.d false a8.ty) (.cons (.d false (.slice ab.ty)) .nil))) [] [] 1 zb (B:=Int) (fun b=>((b,()),(()))) (fun a=>oh a.1.1 a.1.2.1 a.1.2.2.1))
theorem qgv:MdlOK Try.prog 48 qar:=li Try.func48 rfl qaq (.two .z (.two .z (.two (.two .z (.s 0)) .z))) (sC qiu s0)
def qeu:Shp:=⟨[qkm],[]⟩
abbrev qry:Ctx (Bool):=⟨78,tt,false,false,[],kf [(43,qb5),(44,qgy),(45,wd),(46,ot),(19,eo),(36,jw),(48,qar)],lf [],cd 78 tt [] [.tmp 8] qeu (fun x=>x.1.1)⟩
theorem qrx:CtxM Try.prog qry:=lq fits mixed (mC qe0 (mC qng (mC qai (mC ya (mC fg (mC pt (mC qgv m0)))))))
abbrev qaf:Mdl:=(ax (.cons (.d false a8.ty) (.cons (.d false a8.ty) (.cons (.d false qT1) (.cons (.d false ck.ty) .nil)))) [] [] 1 qeu (B:=Bool) (fun b=>((b,()),(()))) (fun a=>jt a.1.1 a.1.2.1 a.1.2.2.1 (pe3 a.1)))
theorem qcp:MdlOK Try.prog 13 qaf:=li Try.func13 rfl qrx .z s0
def qiy:Shp:=⟨[qkm],[]⟩
abbrev qwa:Ctx (Bool):=⟨46,tt,false,false,[],kf [(33,qom),(31,qi2),(13,qaf)],lf [],cd 46 tt [] [.tmp 0] qiy (fun x=>x.1.1)⟩
theorem qv9:CtxM Try.prog qwa:=lq fits mixed (mC qth (mC qpr (mC qcp m0)))
abbrev qk5:Mdl:=(ax .nil [] [] 1 qiy (B:=Bool) (fun b=>((b,()),(()))) (fun a=>qgc))
theorem qro:MdlOK Try.prog 8 qk5:=li Try.func8 rfl qv9 .z s0
def qer:Shp:=⟨[qkm],[]⟩
abbrev qrq:Ctx (Bool):=⟨19,tt,false,false,[],kf [],lf [],cd 19 tt [] [.tmp 2] qer (fun x=>x.1.1)⟩
theorem qrp:CtxM Try.prog qrq:=lq fits mixed m0
abbrev qgd:Mdl:=(ax (.cons (.d false ae.ty) .nil) [] [] 1 qer (B:=Bool) (fun b=>((b,()),(()))) (fun a=>w9 a.1.1))
theorem qms:MdlOK Try.prog 35 qgd:=li Try.func35 rfl qrp .z s0
def fq:Shp:=⟨[qu0],[]⟩
abbrev ge:Ctx (Int):=⟨19,tt,false,false,[],kf [(35,qgd)],lf [aw _ 19 [] np (C:=((List ae)×Int)) (S:=Int) (fun x=>((x.1.1,x.1.2.2.1),(pe3 x.1))) nm (CE:=Unit) (E:=Unit) (fun c e=>((()),(()))) (fun c=>()) (fun{R} c a nx dn rt=>bx c.1 c.2 a nx dn rt)],cd 19 tt [] [.tmp 4] fq (fun x=>x.1.1)⟩
theorem gb:CtxM Try.prog ge:=lq fits mixed (mC qms m0)
theorem n5:ba Try.prog ge 0 (lc 0 Try.f72 37):=lp rfl gb .z s0 (fun c a=>((c.1,(()),c.2,a,()),(()))) (fun y=>((),()))
abbrev gc:Mdl:=(ax (.cons (.d false (.slice ae.ty)) (.cons (.fn 35 .nil) .nil)) [] [] 1 fq (B:=Int) (fun b=>((b,()),(()))) (fun a=>dl a.1.1))
theorem nq:MdlOK Try.prog 72 gc:=li Try.func72 rfl gb (.two .z (.two (.two .z (.s 0)) .z)) (sC n5 s0)
def fc:Shp:=⟨[qkm],[]⟩
abbrev m3:Ctx (Bool):=⟨9,tt,false,false,[],kf [(72,gc)],lf [],cd 9 tt [] [.tmp 4] fc (fun x=>x.1.1)⟩
theorem m2:CtxM Try.prog m3:=lq fits mixed (mC nq m0)
abbrev fk:Mdl:=(ax (.cons (.d false (.slice ae.ty)) (.cons (.fn 35 .nil) .nil)) [] [] 1 fc (B:=Bool) (fun b=>((b,()),(()))) (fun a=>ay a.1.1))
theorem mm:MdlOK Try.prog 34 fk:=li Try.func34 rfl m2 .z s0
def qiz:Shp:=⟨[qkm],[]⟩
abbrev qwc:Ctx (Bool):=⟨32,tt,false,false,[],kf [(34,fk)],lf [],cd 32 tt [] [.tmp 2] qiz (fun x=>x.1.1)⟩
theorem qwb:CtxM Try.prog qwc:=lq fits mixed (mC mm m0)
abbrev qk6:Mdl:=(ax (.cons (.d false a8.ty) .nil) [] [] 1 qiz (B:=Bool) (fun b=>((b,()),(()))) (fun a=>ta a.1.1))
theorem qrr:MdlOK Try.prog 9 qk6:=li Try.func9 rfl qwb .z s0
def qk8:Shp:=⟨[qkm],[]⟩
abbrev qyk:Ctx (Bool):=⟨16,tt,false,false,[],kf [],lf [],cd 16 tt [] [.tmp 2] qk8 (fun x=>x.1.1)⟩
theorem qyj:CtxM Try.prog qyk:=lq fits mixed m0
abbrev qoo:Mdl:=(ax (.cons (.d false qT1) .nil) [] [] 1 qk8 (B:=Bool) (fun b=>((b,()),(()))) (fun a=>wb a.1.1))
theorem qti:MdlOK Try.prog 10 qoo:=li Try.func10 rfl qyj .z s0
def qge:Shp:=⟨[qkm],[]⟩
abbrev qtk:Ctx (Bool):=⟨13,tt,false,false,[],kf [],lf [],cd 13 tt [] [.tmp 2] qge (fun x=>x.1.1)⟩
theorem qtj:CtxM Try.prog qtk:=lq fits mixed m0
abbrev qi1:Mdl:=(ax (.cons (.d false ab.ty) .nil) [] [] 1 qge (B:=Bool) (fun b=>((b,()),(()))) (fun a=>qd6 a.1.1))
theorem qpf:MdlOK Try.prog 37 qi1:=li Try.func37 rfl qtj .z s0
def k6:Shp:=⟨[qu0],[]⟩
abbrev lz:Ctx (Int):=⟨19,tt,false,false,[],kf [(37,qi1)],lf [aw _ 19 [] sn (C:=((List ab)×Int)) (S:=Int) (fun x=>((x.1.1,x.1.2.2.1),(pe3 x.1))) sm (CE:=Unit) (E:=Unit) (fun c e=>((()),(()))) (fun c=>()) (fun{R} c a nx dn rt=>cu c.1 c.2 a nx dn rt)],cd 19 tt [] [.tmp 4] k6 (fun x=>x.1.1)⟩
theorem lx:CtxM Try.prog lz:=lq fits mixed (mC qpf m0)
theorem tl:ba Try.prog lz 0 (lc 0 Try.f73 37):=lp rfl lx .z s0 (fun c a=>((c.1,(()),c.2,a,()),(()))) (fun y=>((),()))
abbrev ly:Mdl:=(ax (.cons (.d false (.slice ab.ty)) (.cons (.fn 37 .nil) .nil)) [] [] 1 k6 (B:=Int) (fun b=>((b,()),(()))) (fun a=>fx a.1.1))
theorem sq:MdlOK Try.prog 73 ly:=li Try.func73 rfl lx (.two .z (.two (.two .z (.s 0)) .z)) (sC tl s0)
def iy:Shp:=⟨[qkm],[]⟩
abbrev rg:Ctx (Bool):=⟨9,tt,false,false,[],kf [(73,ly)],lf [],cd 9 tt [] [.tmp 4] iy (fun x=>x.1.1)⟩
theorem rf:CtxM Try.prog rg:=lq fits mixed (mC sq m0)
abbrev jv:Mdl:=(ax (.cons (.d false (.slice ab.ty)) (.cons (.fn 37 .nil) .nil)) [] [] 1 iy (B:=Bool) (fun b=>((b,()),(()))) (fun a=>ew a.1.1))
theorem pr:MdlOK Try.prog 36 jv:=li Try.func36 rfl rf .z s0
def qk9:Shp:=⟨[qkm],[]⟩
abbrev qym:Ctx (Bool):=⟨10,tt,false,false,[],kf [(36,jv)],lf [],cd 10 tt [] [.tmp 2] qk9 (fun x=>x.1.1)⟩
theorem qyl:CtxM Try.prog qym:=lq fits mixed (mC pr m0)
abbrev qop:Mdl:=(ax (.cons (.d false (.slice ab.ty)) .nil) [] [] 1 qk9 (B:=Bool) (fun b=>((b,()),(()))) (fun a=>qaa a.1.1))
theorem qtl:MdlOK Try.prog 11 qop:=li Try.func11 rfl qyl .z s0
def qff:Shp:=⟨[qkm],[]⟩
abbrev qhd:Ctx (Bool):=⟨26,tt,false,false,[],kf [],lf [aw _ 26 [] qn3 (C:=(qL1×qL1)) (S:=Int) (fun x=>((x.1.1,x.1.2.1),x.1.2.2.1)) qn2 (CE:=Unit) (E:=Unit) (fun c e=>((()),(()))) (fun c=>()) (fun{R} c a nx dn rt=>mt c.1 c.2 a nx dn rt)],cd 26 tt [] [.tmp 4] qff (fun x=>x.1.1)⟩
theorem qhb:CtxM Try.prog qhd:=lq fits mixed m0
theorem qp7:ba Try.prog qhd 0 (lc 0 Try.f22 75):=lp rfl qhb (.two .z (.two (.one (.two (.d [0,0,3,7,0,0,48,112,255] [] []) .z)) .z)) s0 (fun c a=>((c.1,c.2,a,()),(()))) (fun y=>((),()))
abbrev qhc:Mdl:=(ax (.cons (.d false qT1) (.cons (.d false qT1) .nil)) [] [] 1 qff (B:=Bool) (fun b=>((b,()),(()))) (fun a=>xj a.1.1 a.1.2.1))
theorem qn4:MdlOK Try.prog 22 qhc:=li Try.func22 rfl qhb (.two .z (.two .z (.two (.two .z (.s 0)) .z))) (sC qp7 s0)
def xw:Shp:=⟨[qkm],[]⟩
abbrev ql:Ctx (Bool):=⟨122,tt,false,false,[],kf [(8,qk5),(9,qk6),(10,qoo),(11,qop),(13,qaf),(22,qhc)],lf [aw _ 122 [] qfp (C:=(qL1×(List ab)×Int×Int×(List ab)×Int×Int×(List ae)×Int×Int×Int×(List ae)×Int×Int×qL1×qL1×(List ab)×qL1×qL1×qL1×qL1)) (S:=(Int×(List ab))) (fun x=>((x.1.1,(pe6 x.1),(pe7 x.1),(pe8 x.1),(pe9 x.1),(pe10 x.1),x.2.1.1,x.2.1.2.1,x.2.1.2.2.1,(pe3 x.2.1),x.2.2.1.1,x.2.2.1.2.1,x.2.2.1.2.2.1,(pe3 x.2.2.1),(pe3 x).1,(pe3 x).2.1,(pe3 x).2.2.1,(pe4 x).1,(pe4 x).2.1,(pe5 x).1,(pe5 x).2.1),((pe11 x.1),(pe6 x)))) qfo (CE:=(qL1×(List ab)×Int×Int×Int×(List ae)×Int×Int×Int×(List ae)×Int×Int×qL1×qL1×(List ab)×qL1×qL1)) (E:=(List ab)) (fun c e=>((c.1,(),(),(),(),c.2.1,c.2.2.1,(pe3 c),()),(((pe4 c),(pe5 c),(pe6 c),(pe7 c),()),((pe8 c),(pe9 c),(pe10 c),(pe11 c),()),((pe12 c),(pe13 c),(pe14 c),()),((pe15 c),(pf16 c),(),()),e,()))) (fun c=>(c.1,c.2.1,c.2.2.1,(pe3 c),(pe6 c),(pe7 c),(pe8 c),(pe9 c),(pe10 c),(pe11 c),(pe12 c),(pe13 c),(pe14 c),(pe15 c),(pe16 c),(pe17 c),(pe18 c))) (fun{R} c a nx dn rt=>km c.1 c.2.1 c.2.2.1 (pe3 c) (pe4 c) (pe5 c) (pe6 c) (pe7 c) (pe8 c) (pe9 c) (pe10 c) (pe11 c) (pe12 c) (pe13 c) (pe14 c) (pe15 c) (pe16 c) (pe17 c) (pe18 c) (pe19 c) (pf20 c) a.1 a.2 nx dn rt),aw _ 122 [] qfr (C:=(qL1×(List ab)×Int×Int×(List ae)×Int×Int×Int×(List ae)×Int×Int×qL1×qL1×(List ab)×qL1×qL1)) (S:=(Int×(List ab))) (fun x=>((x.1.1,(pe5 x.1),(pe6 x.1),x.2.1.1,x.2.1.2.1,x.2.1.2.2.1,(pe3 x.2.1),x.2.2.1.1,x.2.2.1.2.1,x.2.2.1.2.2.1,(pe3 x.2.2.1),(pe3 x).1,(pe3 x).2.1,(pe3 x).2.2.1,(pe4 x).1,(pe4 x).2.1),((pe7 x.1),(pe5 x)))) qfq (CE:=(qL1×Int×(List ae)×Int×Int×Int×(List ae)×Int×Int×qL1×qL1)) (E:=(List ab)) (fun c e=>((c.1,(),(),(),()),((c.2.1,c.2.2.1,(pe3 c),(pe4 c),()),((pe5 c),(pe6 c),(pe7 c),(pe8 c),()),((pe9 c),(pf10 c),(),()),e,()))) (fun c=>(c.1,(pe3 c),(pe4 c),(pe5 c),(pe6 c),(pe7 c),(pe8 c),(pe9 c),(pe10 c),(pe14 c),(pf15 c))) (fun{R} c a nx dn rt=>ko c.1 c.2.1 c.2.2.1 (pe3 c) (pe4 c) (pe5 c) (pe6 c) (pe7 c) (pe8 c) (pe9 c) (pe10 c) (pe11 c) (pe12 c) (pe13 c) (pe14 c) (pf15 c) a.1 a.2 nx dn rt)],cd 122 tt [] [.tmp 12] xw (fun x=>x.1.1)⟩
theorem qk:CtxM Try.prog ql:=lq fits mixed (mC qro (mC qrr (mC qti (mC qtl (mC qcp (mC qn4 m0))))))
theorem qga:ba Try.prog ql 0 (lc 2 Try.f4 157279):=lp rfl qk .z s0 (fun c a=>((c.1,(),(),(),(),(),c.2.1,c.2.2.1,(pe3 c),(pe4 c),(pe5 c),a.1,()),(((pe6 c),(pe7 c),(pe8 c),(pe9 c),()),((pe10 c),(pe11 c),(pe12 c),(pe13 c),()),((pe14 c),(pe15 c),(pe16 c),()),((pe17 c),(pe18 c),(),()),((pe19 c),(pf20 c),()),a.2,()))) (fun y=>((y.1.1,(pe5 y.1),(pe6 y.1),(pe7 y.1),y.2.1.1,y.2.1.2.1,y.2.1.2.2.1,(pe3 y.2.1),y.2.2.1.1,y.2.2.1.2.1,y.2.2.1.2.2.1,(pe3 y.2.2.1),(pe3 y).1,(pe3 y).2.1,(pe3 y).2.2.1,(pe4 y).1,(pe4 y).2.1),(pe5 y)))
theorem qgb:ba Try.prog ql 1 (lc 0 Try.f4 607):=lp rfl qk (.two .z (.two .z (.two (.one (.two .z (.two .z (.s 0)))) .z))) (sC qga s0) (fun c a=>((c.1,(),(),(),(),c.2.1,c.2.2.1,a.1,()),(((pe3 c),(pe4 c),(pe5 c),(pe6 c),()),((pe7 c),(pe8 c),(pe9 c),(pe10 c),()),((pe11 c),(pe12 c),(pe13 c),()),((pe14 c),(pf15 c),(),()),a.2,()))) (fun y=>((y.1.1,y.2.1.1,y.2.1.2.1,y.2.1.2.2.1,(pe3 y.2.1),y.2.2.1.1,y.2.2.1.2.1,y.2.2.1.2.2.1,(pe3 y.2.2.1),(pe3 y).1,(pe3 y).2.1),(pe4 y)))
abbrev qh2:Mdl:=(ax (.cons (.d true a8.ty) (.cons (.d true a8.ty) (.cons (.d true a8.ty) (.cons (.d true qT1) (.cons (.d true ck.ty) (.cons (.d true ck.ty) .nil)))))) [] [] 1 xw (B:=Bool) (fun b=>((b,()),(()))) (fun a=>sd a.1.1 a.1.2.1 a.1.2.2.1 (pe3 a.1) (pe4 a.1) (pe5 a.1)))
theorem qfs:MdlOK Try.prog 4 qh2:=li Try.func4 rfl qk (.two .z (.two .z (.two .z (.two .z (.two .z (.two (.two .z (.s 1)) .z)))))) (sC qgb s0)
end
end Go.Proofs.Ytdhfhpdadbopkaa
