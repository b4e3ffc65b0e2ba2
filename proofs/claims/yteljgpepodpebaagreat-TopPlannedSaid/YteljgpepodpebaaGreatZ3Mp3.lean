/-
  The functions compute what their models say. Made by program (mg3.py) out of the translation.
-/
import Derived.Test.YteljgpepodpebaaGreatZ3Md
import Derived.Test.YteljgpepodpebaaGreatZ3Tt
set_option linter.all false
set_option maxRecDepth 100000
namespace Go.Proofs.YteljgpepodpebaaGreat
open Go.K Go.M
abbrev pe3{A0 A1 A2 A3 A4:Type}(x:A0×A1×A2×A3×A4):A3:=x.2.2.2.1
abbrev pe4{A0 A1 A2 A3 A4 A5:Type}(x:A0×A1×A2×A3×A4×A5):A4:=x.2.2.2.2.1
abbrev pe5{A0 A1 A2 A3 A4 A5 A6:Type}(x:A0×A1×A2×A3×A4×A5×A6):A5:=x.2.2.2.2.2.1
abbrev pe6{A0 A1 A2 A3 A4 A5 A6 A7:Type}(x:A0×A1×A2×A3×A4×A5×A6×A7):A6:=x.2.2.2.2.2.2.1
abbrev pe7{A0 A1 A2 A3 A4 A5 A6 A7 A8:Type}(x:A0×A1×A2×A3×A4×A5×A6×A7×A8):A7:=x.2.2.2.2.2.2.2.1
abbrev pe8{A0 A1 A2 A3 A4 A5 A6 A7 A8 A9:Type}(x:A0×A1×A2×A3×A4×A5×A6×A7×A8×A9):A8:=x.2.2.2.2.2.2.2.2.1
abbrev pe9{A0 A1 A2 A3 A4 A5 A6 A7 A8 A9 A10:Type}(x:A0×A1×A2×A3×A4×A5×A6×A7×A8×A9×A10):A9:=x.2.2.2.2.2.2.2.2.2.1
abbrev pe10{A0 A1 A2 A3 A4 A5 A6 A7 A8 A9 A10 A11:Type}(x:A0×A1×A2×A3×A4×A5×A6×A7×A8×A9×A10×A11):A10:=x.2.2.2.2.2.2.2.2.2.2.1
abbrev pe11{A0 A1 A2 A3 A4 A5 A6 A7 A8 A9 A10 A11 A12:Type}(x:A0×A1×A2×A3×A4×A5×A6×A7×A8×A9×A10×A11×A12):A11:=x.2.2.2.2.2.2.2.2.2.2.2.1
abbrev pe12{A0 A1 A2 A3 A4 A5 A6 A7 A8 A9 A10 A11 A12 A13:Type}(x:A0×A1×A2×A3×A4×A5×A6×A7×A8×A9×A10×A11×A12×A13):A12:=x.2.2.2.2.2.2.2.2.2.2.2.2.1
abbrev pe13{A0 A1 A2 A3 A4 A5 A6 A7 A8 A9 A10 A11 A12 A13 A14:Type}(x:A0×A1×A2×A3×A4×A5×A6×A7×A8×A9×A10×A11×A12×A13×A14):A13:=x.2.2.2.2.2.2.2.2.2.2.2.2.2.1
abbrev pe14{A0 A1 A2 A3 A4 A5 A6 A7 A8 A9 A10 A11 A12 A13 A14 A15:Type}(x:A0×A1×A2×A3×A4×A5×A6×A7×A8×A9×A10×A11×A12×A13×A14×A15):A14:=x.2.2.2.2.2.2.2.2.2.2.2.2.2.2.1
abbrev pe15{A0 A1 A2 A3 A4 A5 A6 A7 A8 A9 A10 A11 A12 A13 A14 A15 A16:Type}(x:A0×A1×A2×A3×A4×A5×A6×A7×A8×A9×A10×A11×A12×A13×A14×A15×A16):A15:=x.2.2.2.2.2.2.2.2.2.2.2.2.2.2.2.1
abbrev pf4{A0 A1 A2 A3 A4:Type}(x:A0×A1×A2×A3×A4):A4:=x.2.2.2.2
abbrev pf5{A0 A1 A2 A3 A4 A5:Type}(x:A0×A1×A2×A3×A4×A5):A5:=x.2.2.2.2.2
abbrev pf6{A0 A1 A2 A3 A4 A5 A6:Type}(x:A0×A1×A2×A3×A4×A5×A6):A6:=x.2.2.2.2.2.2
abbrev pf7{A0 A1 A2 A3 A4 A5 A6 A7:Type}(x:A0×A1×A2×A3×A4×A5×A6×A7):A7:=x.2.2.2.2.2.2.2
abbrev pf8{A0 A1 A2 A3 A4 A5 A6 A7 A8:Type}(x:A0×A1×A2×A3×A4×A5×A6×A7×A8):A8:=x.2.2.2.2.2.2.2.2
abbrev pf9{A0 A1 A2 A3 A4 A5 A6 A7 A8 A9:Type}(x:A0×A1×A2×A3×A4×A5×A6×A7×A8×A9):A9:=x.2.2.2.2.2.2.2.2.2
abbrev pf10{A0 A1 A2 A3 A4 A5 A6 A7 A8 A9 A10:Type}(x:A0×A1×A2×A3×A4×A5×A6×A7×A8×A9×A10):A10:=x.2.2.2.2.2.2.2.2.2.2
abbrev pf11{A0 A1 A2 A3 A4 A5 A6 A7 A8 A9 A10 A11:Type}(x:A0×A1×A2×A3×A4×A5×A6×A7×A8×A9×A10×A11):A11:=x.2.2.2.2.2.2.2.2.2.2.2
abbrev pf12{A0 A1 A2 A3 A4 A5 A6 A7 A8 A9 A10 A11 A12:Type}(x:A0×A1×A2×A3×A4×A5×A6×A7×A8×A9×A10×A11×A12):A12:=x.2.2.2.2.2.2.2.2.2.2.2.2
abbrev pf13{A0 A1 A2 A3 A4 A5 A6 A7 A8 A9 A10 A11 A12 A13:Type}(x:A0×A1×A2×A3×A4×A5×A6×A7×A8×A9×A10×A11×A12×A13):A13:=x.2.2.2.2.2.2.2.2.2.2.2.2.2
abbrev pf14{A0 A1 A2 A3 A4 A5 A6 A7 A8 A9 A10 A11 A12 A13 A14:Type}(x:A0×A1×A2×A3×A4×A5×A6×A7×A8×A9×A10×A11×A12×A13×A14):A14:=x.2.2.2.2.2.2.2.2.2.2.2.2.2.2
abbrev pf15{A0 A1 A2 A3 A4 A5 A6 A7 A8 A9 A10 A11 A12 A13 A14 A15:Type}(x:A0×A1×A2×A3×A4×A5×A6×A7×A8×A9×A10×A11×A12×A13×A14×A15):A15:=x.2.2.2.2.2.2.2.2.2.2.2.2.2.2.2
abbrev pf16{A0 A1 A2 A3 A4 A5 A6 A7 A8 A9 A10 A11 A12 A13 A14 A15 A16:Type}(x:A0×A1×A2×A3×A4×A5×A6×A7×A8×A9×A10×A11×A12×A13×A14×A15×A16):A16:=x.2.2.2.2.2.2.2.2.2.2.2.2.2.2.2.2
noncomputable section
def q3z:Shp:=⟨[jds],[]⟩
abbrev q9m:Ctx (Int):=⟨12,tt,false,false,[],fu [],ge [ar _ 12 [] jeu (C:=Unit) (S:=(Int×Int)) (fun x=>((),(x.1.1,x.1.2.1))) jet (CE:=Unit) (E:=Int) (fun c e=>((e,()),(()))) (fun c=>()) (fun{R} c a nx dn rt=>qci a.1 a.2 nx dn rt)],bq 12 tt [] [.tmp 4] q3z (fun x=>x.1.1)⟩
theorem q9l:CtxM Tryz.prog q9m:=gg fits az m0
theorem jg6:ax Tryz.prog q9m 0 (lc 0 Tryz.f86 17):=lp rfl q9l (.two .z (.one (.d [0,0,0,6,3,31] [] []))) s0 (fun c a=>((a.1,a.2,()),(()))) (fun y=>((),y.1.1))
abbrev qx6:Mdl:=(aq (.cons (.d false qT0) (.cons (.d false qT0) .nil)) [] [] 1 q3z (B:=Int) (fun b=>((b,()),(()))) (fun a=>qoq a.1.1 a.1.2.1))
theorem q0i:MdlOK Tryz.prog 86 qx6:=gf Tryz.func86 rfl q9l (.two .z (.two (.s 0) .z)) (sC jg6 s0)
def quu:Shp:=⟨[qxo],[]⟩
abbrev jep:Ctx (Bool):=⟨33,tt,false,false,[],fu [(86,qx6)],ge [],bq 33 tt [] [.tmp 2] quu (fun x=>x.1.1)⟩
theorem jeo:CtxM Tryz.prog jep:=gg fits az (mC q0i m0)
abbrev xr:Mdl:=(aq (.cons (.d false ab.ty) .nil) [] [] 1 quu (B:=Bool) (fun b=>((b,()),(()))) (fun a=>rv a.1.1))
theorem u5:MdlOK Tryz.prog 44 xr:=gf Tryz.func44 rfl jeo .z s0
def qr9:Shp:=⟨[qxo],[]⟩
abbrev qvh:Ctx (Bool):=⟨51,tt,false,false,[],fu [(44,xr)],ge [ar _ 51 [] q4y (C:=((List ab)×Int×Int×Int×Int×Int×Int×Int)) (S:=Int) (fun x=>((x.1.2.1,x.1.2.2.1,x.2.1.1,x.2.1.2.1,x.2.1.2.2.1,(pe3 x.2.1),(pe4 x.2.1),(pe5 x.2.1)),(pe3 x.1))) q4x (CE:=(Int×Int×Int×Int×Int×Int)) (E:=Unit) (fun c e=>(((),()),((c.1,c.2.1,c.2.2.1,(pe3 c),(pe4 c),(pf5 c),()),()))) (fun c=>(c.2.2.1,(pe3 c),(pe4 c),(pe5 c),(pe6 c),(pf7 c))) (fun{R} c a nx dn rt=>qo1 c.1 c.2.1 c.2.2.1 (pe3 c) (pe4 c) (pe5 c) (pe6 c) (pf7 c) a nx dn rt)],bq 51 tt [] [.tmp 2] qr9 (fun x=>x.1.1)⟩
theorem qvf:CtxM Tryz.prog qvh:=gg fits az (mC u5 m0)
theorem q7r:ax Tryz.prog qvh 0 (lc 0 Tryz.f46 37):=lp rfl qvf .z s0 (fun c a=>(((),c.1,c.2.1,a,()),((c.2.2.1,(pe3 c),(pe4 c),(pe5 c),(pe6 c),(pf7 c),()),()))) (fun y=>((y.2.1.1,y.2.1.2.1,y.2.1.2.2.1,(pe3 y.2.1),(pe4 y.2.1),(pe5 y.2.1)),()))
abbrev qvg:Mdl:=(aq (.cons (.d false qiq.ty) .nil) [] [] 1 qr9 (B:=Bool) (fun b=>((b,()),(()))) (fun a=>q0q a.1.1))
theorem q4z:MdlOK Tryz.prog 46 qvg:=gf Tryz.func46 rfl qvf (.two .z (.two (.two .z (.s 0)) .z)) (sC q7r s0)
def qsa:Shp:=⟨[jdq],[]⟩
abbrev jco:Ctx (ab):=⟨5,tt,false,false,[],fu [],ge [],bq 5 tt [] [.cell 2 49] qsa (fun x=>x.1.1)⟩
theorem jcn:CtxM Tryz.prog jco:=gg fits az m0
abbrev kb:Mdl:=(aq (.cons (.d false qT0) .nil) [] [] 1 qsa (B:=ab) (fun b=>((b,()),(()))) (fun a=>df a.1.1))
theorem im:MdlOK Tryz.prog 93 kb:=gf Tryz.func93 rfl jcn .z s0
def qor:Shp:=⟨[qxo],[]⟩
abbrev q7k:Ctx (Bool):=⟨6,tt,false,false,[],fu [(44,xr)],ge [],bq 6 tt [] [.tmp 2] qor (fun x=>x.1.1)⟩
theorem q7j:CtxM Tryz.prog q7k:=gg fits az (mC u5 m0)
abbrev qr5:Mdl:=(aq (.cons (.d false ab.ty) .nil) [] [] 1 qor (B:=Bool) (fun b=>((b,()),(()))) (fun a=>qk1 a.1.1))
theorem q1e:MdlOK Tryz.prog 85 qr5:=gf Tryz.func85 rfl q7j .z s0
def j7:Shp:=⟨[jds],[]⟩
abbrev k7:Ctx (Int):=⟨19,tt,false,false,[],fu [(85,qr5)],ge [ar _ 19 [] qt (C:=((List ab)×Int)) (S:=Int) (fun x=>((x.1.1,x.1.2.2.1),(pe3 x.1))) qs (CE:=Unit) (E:=Unit) (fun c e=>((()),(()))) (fun c=>()) (fun{R} c a nx dn rt=>cf c.1 c.2 a nx dn rt)],bq 19 tt [] [.tmp 4] j7 (fun x=>x.1.1)⟩
theorem kz:CtxM Tryz.prog k7:=gg fits az (mC q1e m0)
theorem rk:ax Tryz.prog k7 0 (lc 0 Tryz.f72 37):=lp rfl kz .z s0 (fun c a=>((c.1,(()),c.2,a,()),(()))) (fun y=>((),()))
abbrev k6:Mdl:=(aq (.cons (.d false (.slice ab.ty)) (.cons (.fn 85 .nil) .nil)) [] [] 1 j7 (B:=Int) (fun b=>((b,()),(()))) (fun a=>fq a.1.1))
theorem qu:MdlOK Tryz.prog 72 k6:=gf Tryz.func72 rfl kz (.two .z (.two (.two .z (.s 0)) .z)) (sC rk s0)
def iv:Shp:=⟨[qxo],[]⟩
abbrev pg:Ctx (Bool):=⟨9,tt,false,false,[],fu [(72,k6)],ge [],bq 9 tt [] [.tmp 4] iv (fun x=>x.1.1)⟩
theorem pf:CtxM Tryz.prog pg:=gg fits az (mC qu m0)
abbrev jb:Mdl:=(aq (.cons (.d false (.slice ab.ty)) (.cons (.fn 85 .nil) .nil)) [] [] 1 iv (B:=Bool) (fun b=>((b,()),(()))) (fun a=>cx a.1.1))
theorem n8:MdlOK Tryz.prog 78 jb:=gf Tryz.func78 rfl pf .z s0
def quv:Shp:=⟨[qxo],[]⟩
abbrev jew:Ctx (Bool):=⟨6,tt,false,false,[],fu [(78,jb)],ge [],bq 6 tt [] [.tmp 2] quv (fun x=>x.1.1)⟩
theorem jev:CtxM Tryz.prog jew:=gg fits az (mC n8 m0)
abbrev rx:Mdl:=(aq (.cons (.d false (.slice ab.ty)) .nil) [] [] 1 quv (B:=Bool) (fun b=>((b,()),(()))) (fun a=>l4 a.1.1))
theorem p7:MdlOK Tryz.prog 43 rx:=gf Tryz.func43 rfl jev .z s0
def q3v:Shp:=⟨[j9z],[]⟩
abbrev jlk:Ctx (Int):=⟨10,tt,false,false,[],fu [],ge [],bq 10 tt [] [.tmp 2] q3v (fun x=>x.1.1)⟩
theorem jlj:CtxM Tryz.prog jlk:=gg fits az m0
abbrev qq1:Mdl:=(aq (.cons (.d false qT0) .nil) [] [] 1 q3v (B:=Int) (fun b=>((b,()),(()))) (fun a=>u6 a.1.1))
theorem qoo:MdlOK Tryz.prog 109 qq1:=gf Tryz.func109 rfl jlj .z s0
def q3x:Shp:=⟨[jdq,q2j],[]⟩
abbrev q9k:Ctx ((ab×Int)):=⟨43,tt,false,false,[],fu [],ge [ar _ 43 [] jes (C:=(Bool×Int×Int×Int×Int)) (S:=(Int×Int)) (fun x=>((x.1.1,x.1.2.1,x.1.2.2.1,x.2.1.1,x.2.1.2.1),((pe4 x.1),(pe5 x.1)))) jer (CE:=(Bool×Int×Int×Int×Int)) (E:=Int) (fun c e=>((c.1,c.2.1,c.2.2.1,(),e,()),(((pe3 c),(pf4 c),()),()))) (fun c=>(c.1,c.2.1,c.2.2.1,(pe3 c),(pf4 c))) (fun{R} c a nx dn rt=>qch c.1 c.2.1 c.2.2.1 (pe3 c) (pf4 c) a.1 a.2 nx dn rt)],bq 43 tt [] [.cell 6 49, .tmp 7] q3x (fun x=>(x.1.1,x.1.2.1))⟩
theorem q9j:CtxM Tryz.prog q9k:=gg fits az m0
theorem jg5:ax Tryz.prog q9k 0 (lc 0 Tryz.f108 35):=lp rfl q9j (.two .z (.one (.d [0,0,0,6,3,31] [] []))) s0 (fun c a=>((c.1,c.2.1,c.2.2.1,(),a.1,a.2,()),(((pe3 c),(pf4 c),()),()))) (fun y=>((y.1.1,y.1.2.1,y.1.2.2.1,y.2.1.1,y.2.1.2.1),(pe4 y.1)))
abbrev qq2:Mdl:=(aq (.cons (.d false .bool) (.cons (.d false (.int .u64)) (.cons (.d false (.int .u64)) .nil))) [] [] 2 q3x (B:=(ab×Int)) (fun b=>((b.1,b.2,()),(()))) (fun a=>qcg a.1.1 a.1.2.1 a.1.2.2.1))
theorem qop:MdlOK Tryz.prog 108 qq2:=gf Tryz.func108 rfl q9j (.two .z (.two .z (.two (.s 0) (.two (.d [0,0,3,0,0,24,7,127] [] []) .z)))) (sC jg5 s0)
def q3n:Shp:=⟨[jdq,q2j],[]⟩
abbrev jla:Ctx ((ab×Int)):=⟨72,tt,false,false,[],fu [(43,rx),(86,qx6),(109,qq1),(108,qq2)],ge [],bq 72 tt [] [.cell 4 49, .tmp 5] q3n (fun x=>(x.1.1,x.1.2.1))⟩
theorem jk9:CtxM Tryz.prog jla:=gg fits az (mC p7 (mC q0i (mC qoo (mC qop m0))))
abbrev qiz:Mdl:=(aq (.cons (.d false ab.ty) (.cons (.d false ab.ty) .nil)) [] [] 2 q3n (B:=(ab×Int)) (fun b=>((b.1,b.2,()),(()))) (fun a=>qe3 a.1.1 a.1.2.1))
theorem qgz:MdlOK Tryz.prog 83 qiz:=gf Tryz.func83 rfl jk9 (.two .z (.two .z (.two .z (.two (.d [0,1,0,4,0,28,63,0,128,0,512,0,3584,8064,127,32767] [] []) (.two (.d [0,1,3,0,8,0,56,120,255,511] [] []) .z))))) s0
def q3u:Shp:=⟨[jdq,q2j],[]⟩
abbrev jli:Ctx ((ab×Int)):=⟨21,tt,false,false,[],fu [(43,rx),(83,qiz)],ge [],bq 21 tt [] [.cell 4 49, .tmp 5] q3u (fun x=>(x.1.1,x.1.2.1))⟩
theorem jlh:CtxM Tryz.prog jli:=gg fits az (mC p7 (mC qgz m0))
abbrev qi2:Mdl:=(aq (.cons (.d false ab.ty) (.cons (.d false ab.ty) .nil)) [] [] 2 q3u (B:=(ab×Int)) (fun b=>((b.1,b.2,()),(()))) (fun a=>qe5 a.1.1 a.1.2.1))
theorem qg1:MdlOK Tryz.prog 107 qi2:=gf Tryz.func107 rfl jlh .z s0
def zf:Shp:=⟨[jdq],[qr4]⟩
abbrev qnu:Ctx ((ab×Int)):=⟨32,tt,false,false,[true],fu [(93,kb),(107,qi2)],ge [],bq 32 tt [true] [.cell 8 49] zf (fun x=>(x.1.1,x.2.1.1))⟩
theorem qnt:CtxM Tryz.prog qnu:=gg fits az (mC im (mC qg1 m0))
abbrev qd:Mdl:=(aq (.cons (.ptr 0) (.cons (.fn 107 .nil) (.cons (.d false ab.ty) (.cons (.d false ab.ty) .nil)))) [.cs 107 1 1 (.cons (.d false qT0) .nil)] [true] 1 zf (B:=(ab×Int)) (fun b=>((b.1,()),((b.2,()),()))) (fun a=>sd a.1.2.2.1 (pe3 a.1) a.2.1.1))
theorem xy:MdlOK Tryz.prog 94 qd:=gf Tryz.func94 rfl qnt .z s0
def xz:Shp:=⟨[jdq],[]⟩
abbrev qli:Ctx (ab):=⟨17,tt,false,false,[],fu [(93,kb)],ge [],bq 17 tt [] [.cell 3 49] xz (fun x=>x.1.1)⟩
theorem qlh:CtxM Tryz.prog qli:=gg fits az (mC im m0)
abbrev zi:Mdl:=(aq (.cons (.d false qT0) (.cons (.rp false (.slice ab.ty)) .nil)) [] [] 1 xz (B:=ab) (fun b=>((b,()),(()))) (fun a=>qe a.1.1 a.1.2.1))
theorem qhz:MdlOK Tryz.prog 118 zi:=gf Tryz.func118 rfl qlh .z s0
def q3t:Shp:=⟨[jdq,q2j],[]⟩
abbrev jlg:Ctx ((ab×Int)):=⟨36,tt,false,false,[],fu [(43,rx),(109,qq1),(108,qq2)],ge [],bq 36 tt [] [.cell 4 49, .tmp 5] q3t (fun x=>(x.1.1,x.1.2.1))⟩
theorem jlf:CtxM Tryz.prog jlg:=gg fits az (mC p7 (mC qoo (mC qop m0)))
abbrev qey:Mdl:=(aq (.cons (.d false ab.ty) (.cons (.d false ab.ty) .nil)) [] [] 2 q3t (B:=(ab×Int)) (fun b=>((b.1,b.2,()),(()))) (fun a=>qce a.1.1 a.1.2.1))
theorem qcf:MdlOK Tryz.prog 82 qey:=gf Tryz.func82 rfl jlf (.two .z (.two .z (.two (.d [0,1,3,0,8,24,63,0,128,384,0,1024,3968,8064,0,16384,49152,0,131072,393216,1032192,2097151,4194303,4194303,16777215,33554431] [24] []) .z))) s0
def qa0:Shp:=⟨[jdq],[qr4]⟩
abbrev qo3:Ctx ((ab×Int)):=⟨32,tt,false,false,[true],fu [(93,kb),(82,qey)],ge [],bq 32 tt [true] [.cell 8 49] qa0 (fun x=>(x.1.1,x.2.1.1))⟩
theorem qo2:CtxM Tryz.prog qo3:=gg fits az (mC im (mC qcf m0))
abbrev mr:Mdl:=(aq (.cons (.ptr 0) (.cons (.fn 82 .nil) (.cons (.d false ab.ty) (.cons (.d false ab.ty) .nil)))) [.cs 107 1 1 (.cons (.d false qT0) .nil)] [true] 1 qa0 (B:=(ab×Int)) (fun b=>((b.1,()),((b.2,()),()))) (fun a=>iz a.1.2.2.1 (pe3 a.1) a.2.1.1))
theorem oh:MdlOK Tryz.prog 94 mr:=gf Tryz.func94 rfl qo2 .z s0
def qa1:Shp:=⟨[jdq],[qr4]⟩
abbrev qo5:Ctx ((ab×Int)):=⟨32,tt,false,false,[true],fu [(93,kb),(83,qiz)],ge [],bq 32 tt [true] [.cell 8 49] qa1 (fun x=>(x.1.1,x.2.1.1))⟩
theorem qo4:CtxM Tryz.prog qo5:=gg fits az (mC im (mC qgz m0))
abbrev mt:Mdl:=(aq (.cons (.ptr 0) (.cons (.fn 83 .nil) (.cons (.d false ab.ty) (.cons (.d false ab.ty) .nil)))) [.cs 107 1 1 (.cons (.d false qT0) .nil)] [true] 1 qa1 (B:=(ab×Int)) (fun b=>((b.1,()),((b.2,()),()))) (fun a=>f8 a.1.2.2.1 (pe3 a.1) a.2.1.1))
theorem oi:MdlOK Tryz.prog 94 mt:=gf Tryz.func94 rfl qo4 .z s0
def qa3:Shp:=⟨[(0, .own 1)],[qr4,qkm]⟩
abbrev si:Ctx ((Int×(List (List ab)))):=⟨61,tt,false,true,[true],fu [(93,kb),(94,qd),(94,mr),(94,mt),(118,zi)],ge [ar _ 61 [true] qle (C:=(Int×Int×Int×Int×Int×Int×Int×Int×Int×(List (List ab))×(List ab))) (S:=(Int×Int×(List ab))) (fun x=>(((pe4 x.1),x.2.2.1.1,x.2.2.1.2.1,x.2.2.1.2.2.1,(pe3 x.2.2.1),(pe4 x.2.2.1),(pe5 x.2.2.1),(pe3 x).1,(pe3 x).2.1,(pe4 x),(pe5 x).1),((pe7 x.1),x.2.1.1,(pe6 x)))) qld (CE:=(Int×Int×Int×Int×Int×Int×Int×Int×Int×(List (List ab)))) (E:=(Int×(List ab))) (fun c e=>(((),(),(),(),c.1,(),()),((e.1,()),(c.2.1,c.2.2.1,(pe3 c),(pe4 c),(pe5 c),(pe6 c),()),((pe7 c),(pe8 c),()),(pf9 c),e.2,()))) (fun c=>(c.1,c.2.1,c.2.2.1,(pe3 c),(pe4 c),(pe5 c),(pe6 c),(pe7 c),(pe8 c),(pe9 c))) (fun{R} c a nx dn rt=>zg c.1 c.2.1 c.2.2.1 (pe3 c) (pe4 c) (pe5 c) (pe6 c) (pe7 c) (pe8 c) (pe9 c) (pf10 c) a.1 a.2.1 a.2.2 nx dn rt),ar _ 61 [true] qlg (C:=(Int×Int×Int×Int×Int×Int×Int×Int)) (S:=(Int×Int×(List (List ab)))) (fun x=>((x.2.2.1.1,x.2.2.1.2.1,x.2.2.1.2.2.1,(pe3 x.2.2.1),(pe4 x.2.2.1),(pe5 x.2.2.1),(pe3 x).1,(pe3 x).2.1),((pe4 x.1),x.2.1.1,(pe4 x)))) qlf (CE:=Unit) (E:=(Int×(List (List ab)))) (fun c e=>(((),()),((e.1,()),e.2,()))) (fun c=>()) (fun{R} c a nx dn rt=>zh c.1 c.2.1 c.2.2.1 (pe3 c) (pe4 c) (pe5 c) (pe6 c) (pf7 c) a.1 a.2.1 a.2.2 nx dn rt)],bq 61 tt [true] [.tmp 4] qa3 (fun x=>(x.2.1.1,x.2.2.1))⟩
theorem se:CtxM Tryz.prog si:=gg fits az (mC im (mC xy (mC oh (mC oi (mC qhz m0)))))
theorem qnx:ax Tryz.prog si 0 (lc 2 Tryz.f115 154775):=lp rfl se (.two .z (.two (.one (.d [0,0,0,0,0,24,0,124,0,0,0,1024,3836,0,8192,32764,65534,131070,262143,524287] [7,15,16,17,18,19] [0])) .z)) s0 (fun c a=>(((),(),(),(),c.1,((),()),(),a.1,()),((a.2.1,()),(c.2.1,c.2.2.1,(pe3 c),(pe4 c),(pe5 c),(pe6 c),()),((pe7 c),(pe8 c),()),(pe9 c),((pf10 c),()),a.2.2,()))) (fun y=>(((pe4 y.1),y.2.2.1.1,y.2.2.1.2.1,y.2.2.1.2.2.1,(pe3 y.2.2.1),(pe4 y.2.2.1),(pe5 y.2.2.1),(pe3 y).1,(pe3 y).2.1,(pe4 y)),(y.2.1.1,(pe5 y))))
theorem qny:ax Tryz.prog si 1 (lc 0 Tryz.f115 151):=lp rfl se (.two .z (.two (.one (.two .z (.two .z (.two .z (.two (.two .z (.s 0)) .z))))) .z)) (sC qnx s0) (fun c a=>(((),(),(),(),a.1,()),((a.2.1,()),(c.1,c.2.1,c.2.2.1,(pe3 c),(pe4 c),(pe5 c),()),((pe6 c),(pf7 c),()),a.2.2,()))) (fun y=>((),(y.2.1.1,y.2.2.1)))
abbrev qct:Mdl:=(aq (.cons (.ptr 0) (.cons (.d false qiq.ty) .nil)) [.cs 107 1 1 (.cons (.d false qT0) .nil)] [true] 1 qa3 (B:=(Int×(List (List ab)))) (fun b=>(((),()),((b.1,()),b.2,()))) (fun a=>qdu a.1.2.1 a.2.1.1))
theorem qlj:MdlOK Tryz.prog 115 qct:=gf Tryz.func115 rfl se (.two .z (.two (.d [0,0,0,4,15,0,63] [4,6] []) (.two .z (.two (.two .z (.s 1)) .z)))) (sC qny s0)
def qsb:Shp:=⟨[j6k],[qau]⟩
abbrev qvj:Ctx ((List ab)):=⟨18,tt,false,false,[],fu [(93,kb)],ge [ar _ 18 [] q41 (C:=Int) (S:=(Int×(List ab))) (fun x=>(x.1.2.1,(x.1.2.2.1,x.2.1))) q40 (CE:=Unit) (E:=(List ab)) (fun c e=>(((),()),(e,()))) (fun c=>()) (fun{R} c a nx dn rt=>qo9 c a.1 a.2 nx dn rt)],bq 18 tt [] [.tmp 2] qsb (fun x=>x.2.1)⟩
theorem qvi:CtxM Tryz.prog qvj:=gg fits az (mC im m0)
theorem q7t:ax Tryz.prog qvj 0 (lc 0 Tryz.f92 75):=lp rfl qvi .z s0 (fun c a=>(((),c,a.1,()),(a.2,()))) (fun y=>((),y.2.1))
abbrev qlk:Mdl:=(aq (.cons (.d false qT0) .nil) [] [] 1 qsb (B:=(List ab)) (fun b=>(((),()),(b,()))) (fun a=>qo8 a.1.1))
theorem qpa:MdlOK Tryz.prog 92 qlk:=gf Tryz.func92 rfl qvi (.two .z (.two .z (.two (.two .z (.s 0)) .z))) (sC q7t s0)
def qaz:Shp:=⟨[(0, .nl false (.own 1)),j9v],[qr4,qkm]⟩
abbrev sc:Ctx (((List (List ab))×Int×(List (List ab)))):=⟨97,tt,false,false,[true],fu [(115,qct),(93,kb),(94,qd),(94,mr),(94,mt),(92,qlk)],ge [ar _ 97 [true] qk8 (C:=((List (List ab))×Int×Int×Int×Int×Int×Int×Int×Int×Int×Int×(List (List ab)))) (S:=(Int×Int×(List ab))) (fun x=>((x.1.2.2.1,(pe5 x.1),(pe7 x.1),x.2.2.1.1,x.2.2.1.2.1,x.2.2.1.2.2.1,(pe3 x.2.2.1),(pe4 x.2.2.1),(pe5 x.2.2.1),(pe3 x).1,(pe3 x).2.1,(pe4 x)),((pe8 x.1),x.2.1.1,(pe5 x)))) qk7 (CE:=((List (List ab))×Int×Int×Int×Int×Int×Int×Int×Int×Int×(List (List ab)))) (E:=(Int×(List ab))) (fun c e=>(((),(),c.1,(),(),c.2.1,(),()),((e.1,()),(c.2.2.1,(pe3 c),(pe4 c),(pe5 c),(pe6 c),(pe7 c),()),((pe8 c),(pe9 c),()),(pf10 c),e.2,()))) (fun c=>(c.1,c.2.1,(pe3 c),(pe4 c),(pe5 c),(pe6 c),(pe7 c),(pe8 c),(pe9 c),(pe10 c),(pf11 c))) (fun{R} c a nx dn rt=>zd c.1 c.2.1 c.2.2.1 (pe3 c) (pe4 c) (pe5 c) (pe6 c) (pe7 c) (pe8 c) (pe9 c) (pe10 c) (pf11 c) a.1 a.2.1 a.2.2 nx dn rt),ar _ 97 [true] qla (C:=((List (List ab))×Int×Int×Int×Int×Int×Int×Int×Int)) (S:=(Int×Int×(List (List ab)))) (fun x=>((x.1.2.2.1,x.2.2.1.1,x.2.2.1.2.1,x.2.2.1.2.2.1,(pe3 x.2.2.1),(pe4 x.2.2.1),(pe5 x.2.2.1),(pe3 x).1,(pe3 x).2.1),((pe5 x.1),x.2.1.1,(pe4 x)))) qk9 (CE:=(List (List ab))) (E:=(Int×(List (List ab)))) (fun c e=>((c,(),()),((e.1,()),e.2,()))) (fun c=>c.1) (fun{R} c a nx dn rt=>ze c.1 c.2.1 c.2.2.1 (pe3 c) (pe4 c) (pe5 c) (pe6 c) (pe7 c) (pf8 c) a.1 a.2.1 a.2.2 nx dn rt)],bq 97 tt [true] [.tmp 4, .tmp 5] qaz (fun x=>(x.1.2.1,x.2.1.1,x.2.2.1))⟩
theorem rz:CtxM Tryz.prog sc:=gg fits az (mC qlj (mC im (mC xy (mC oh (mC oi (mC qpa m0))))))
theorem qnr:ax Tryz.prog sc 0 (lc 2 Tryz.f91 153903):=lp rfl rz (.two .z (.two (.one (.two (.d [0,0,3,0,0,24,56,0,128,504,7,2047] [] []) (.two (.d [0,0,0,0,0,24,56,0,0,0,768,1792,0,7936,16128,0,65408,131068,262143,524287] [16,17,19] []) (.d [0,0,0,0,0,24,56,0,0,0,768,1792,0,7936,16128,0,32768,130944,262140,524287,1048575] [17,18,20] [])))) .z)) s0 (fun c a=>(((),(),c.1,(),(),c.2.1,(),c.2.2.1,a.1,()),((a.2.1,()),((pe3 c),(pe4 c),(pe5 c),(pe6 c),(pe7 c),(pe8 c),()),((pe9 c),(pe10 c),()),(pf11 c),a.2.2,()))) (fun y=>((y.1.2.2.1,(pe5 y.1),y.2.2.1.1,y.2.2.1.2.1,y.2.2.1.2.2.1,(pe3 y.2.2.1),(pe4 y.2.2.1),(pe5 y.2.2.1),(pe3 y).1,(pe3 y).2.1,(pe4 y)),(y.2.1.1,(pe5 y))))
theorem qns:ax Tryz.prog sc 1 (lc 0 Tryz.f91 303):=lp rfl rz (.two .z (.two (.one (.two .z (.two .z (.two (.two .z (.s 0)) .z)))) .z)) (sC qnr s0) (fun c a=>(((),(),c.1,(),(),a.1,()),((a.2.1,()),(c.2.1,c.2.2.1,(pe3 c),(pe4 c),(pe5 c),(pe6 c),()),((pe7 c),(pf8 c),()),a.2.2,()))) (fun y=>(y.1.1,(y.2.1.1,y.2.2.1)))
abbrev qcr:Mdl:=(aq (.cons (.ptr 0) (.cons (.d false qiq.ty) .nil)) [.cs 107 1 1 (.cons (.d false qT0) .nil)] [true] 2 qaz (B:=((List (List ab))×Int×(List (List ab)))) (fun b=>(((),b.1,()),((b.2.1,()),b.2.2,()))) (fun a=>qdt a.1.2.1 a.2.1.1))
theorem qlb:MdlOK Tryz.prog 91 qcr:=gf Tryz.func91 rfl rz (.two .z (.two .z (.two (.d [0,0,0,4,15,0,63] [4,6] []) (.two .z (.two (.two .z (.s 1)) .z))))) (sC qns s0)
def q3q:Shp:=⟨[jdq,q2j],[]⟩
abbrev jle:Ctx ((ab×Int)):=⟨42,tt,false,false,[],fu [(43,rx),(109,qq1),(108,qq2)],ge [],bq 42 tt [] [.cell 4 49, .tmp 5] q3q (fun x=>(x.1.1,x.1.2.1))⟩
theorem jld:CtxM Tryz.prog jle:=gg fits az (mC p7 (mC qoo (mC qop m0)))
abbrev qq0:Mdl:=(aq (.cons (.d false ab.ty) (.cons (.d false ab.ty) .nil)) [] [] 2 q3q (B:=(ab×Int)) (fun b=>((b.1,b.2,()),(()))) (fun a=>qi1 a.1.1 a.1.2.1))
theorem qon:MdlOK Tryz.prog 95 qq0:=gf Tryz.func95 rfl jld (.two .z (.two .z (.two (.d [0,1,3,0,8,24,63,0,128,384,0,1024,3072,8064,0,16384,49152,0,131072,394112,1033088,2097151,4194303,4194303,16777215,33554431] [24] []) .z))) s0
def qa2:Shp:=⟨[jdq],[qr4]⟩
abbrev qo7:Ctx ((ab×Int)):=⟨32,tt,false,false,[true],fu [(93,kb),(95,qq0)],ge [],bq 32 tt [true] [.cell 8 49] qa2 (fun x=>(x.1.1,x.2.1.1))⟩
theorem qo6:CtxM Tryz.prog qo7:=gg fits az (mC im (mC qon m0))
abbrev qcs:Mdl:=(aq (.cons (.ptr 0) (.cons (.fn 95 .nil) (.cons (.d false ab.ty) (.cons (.d false ab.ty) .nil)))) [.cs 107 1 1 (.cons (.d false qT0) .nil)] [true] 1 qa2 (B:=(ab×Int)) (fun b=>((b.1,()),((b.2,()),()))) (fun a=>ur a.1.2.2.1 (pe3 a.1) a.2.1.1))
theorem qlc:MdlOK Tryz.prog 94 qcs:=gf Tryz.func94 rfl qo6 .z s0
def sj:Shp:=⟨[(0, .own 1),j9v],[qr4,qau]⟩
abbrev d8:Ctx (((List (List ab))×Int×(List ab))):=⟨119,tt,false,false,[true],fu [(91,qcr),(92,qlk),(93,kb),(94,mt),(94,mr),(94,qcs)],ge [ar _ 119 [true] qea (C:=((List (List ab))×(List (List ab))×Int×Int×Int×Int×Int×Int×Int×Int×(List ab)×Int×Int)) (S:=(Int×Int×Int×Int)) (fun x=>((x.1.2.2.1,(pe3 x.1),(pe5 x.1),(pe7 x.1),x.2.2.1.1,x.2.2.1.2.1,x.2.2.1.2.2.1,(pe3 x.2.2.1),(pe4 x.2.2.1),(pe5 x.2.2.1),(pe3 x),(pe4 x).1,(pe4 x).2.1),((pe9 x.1),x.2.1.1,(pe5 x).1,(pe5 x).2.1))) qd9 (CE:=((List (List ab))×(List (List ab))×Int×Int×Int×Int×Int×Int×Int×Int×(List ab)×Int×Int)) (E:=(Int×Int×Int)) (fun c e=>(((),(),c.1,c.2.1,(),c.2.2.1,(),(pe3 c),(),()),((e.1,()),((pe4 c),(pe5 c),(pe6 c),(pe7 c),(pe8 c),(pe9 c),()),(pe10 c),((pe11 c),(pf12 c),()),(e.2.1,e.2.2,()),()))) (fun c=>(c.1,c.2.1,c.2.2.1,(pe3 c),(pe4 c),(pe5 c),(pe6 c),(pe7 c),(pe8 c),(pe9 c),(pe10 c),(pe11 c),(pf12 c))) (fun{R} c a nx dn rt=>qx c.1 c.2.1 c.2.2.1 (pe3 c) (pe4 c) (pe5 c) (pe6 c) (pe7 c) (pe8 c) (pe9 c) (pe10 c) (pe11 c) (pf12 c) a.1 a.2.1 a.2.2.1 a.2.2.2 nx dn rt),ar _ 119 [true] qec (C:=((List (List ab))×(List (List ab))×Int×Int×Int×Int×Int×Int×Int×(List ab))) (S:=(Int×Int×Int×Int)) (fun x=>((x.1.2.2.1,(pe3 x.1),(pe5 x.1),x.2.2.1.1,x.2.2.1.2.1,x.2.2.1.2.2.1,(pe3 x.2.2.1),(pe4 x.2.2.1),(pe5 x.2.2.1),(pe3 x)),((pe7 x.1),x.2.1.1,(pe4 x).1,(pe4 x).2.1))) qeb (CE:=((List (List ab))×(List (List ab))×Int×Int×Int×Int×Int×Int×Int×(List ab))) (E:=(Int×Int×Int)) (fun c e=>(((),(),c.1,c.2.1,(),c.2.2.1,(),()),((e.1,()),((pe3 c),(pe4 c),(pe5 c),(pe6 c),(pe7 c),(pe8 c),()),(pf9 c),(e.2.1,e.2.2,()),()))) (fun c=>(c.1,c.2.1,c.2.2.1,(pe3 c),(pe4 c),(pe5 c),(pe6 c),(pe7 c),(pe8 c),(pf9 c))) (fun{R} c a nx dn rt=>qy c.1 c.2.1 c.2.2.1 (pe3 c) (pe4 c) (pe5 c) (pe6 c) (pe7 c) (pe8 c) (pf9 c) a.1 a.2.1 a.2.2.1 a.2.2.2 nx dn rt),ar _ 119 [true] qee (C:=((List (List ab))×(List (List ab))×Int×Int×Int×Int×Int×Int)) (S:=(Int×Int×(List ab))) (fun x=>((x.1.2.2.1,(pe3 x.1),x.2.2.1.1,x.2.2.1.2.1,x.2.2.1.2.2.1,(pe3 x.2.2.1),(pe4 x.2.2.1),(pe5 x.2.2.1)),((pe5 x.1),x.2.1.1,(pe3 x)))) qed (CE:=(List (List ab))) (E:=(Int×(List ab))) (fun c e=>(((),c,(),()),((e.1,()),e.2,()))) (fun c=>c.2.1) (fun{R} c a nx dn rt=>qz c.1 c.2.1 c.2.2.1 (pe3 c) (pe4 c) (pe5 c) (pe6 c) (pf7 c) a.1 a.2.1 a.2.2 nx dn rt),ar _ 119 [true] qeg (C:=((List (List ab))×Int×(List ab))) (S:=(Int×Int×Int×Int)) (fun x=>((x.1.2.1,(pe5 x.1),x.2.2.1),((pe6 x.1),x.2.1.1,(pe3 x).1,(pe3 x).2.1))) qef (CE:=((List (List ab))×(List ab))) (E:=(Int×Int×Int)) (fun c e=>(((),c.1,(),(),()),((e.1,()),c.2,(e.2.1,e.2.2,()),()))) (fun c=>(c.1,c.2.2)) (fun{R} c a nx dn rt=>q5 c.1 c.2.1 c.2.2 a.1 a.2.1 a.2.2.1 a.2.2.2 nx dn rt),ar _ 119 [true] qei (C:=((List (List ab))×Int×Int×Int)) (S:=(Int×Int×(List ab))) (fun x=>((x.1.2.1,(pe4 x.1),(pe3 x).1,(pe3 x).2.1),((pe5 x.1),x.2.1.1,x.2.2.1))) qeh (CE:=(List (List ab))) (E:=(Int×(List ab))) (fun c e=>((c,(),()),((e.1,()),e.2,()))) (fun c=>c.1) (fun{R} c a nx dn rt=>q6 c.1 c.2.1 c.2.2.1 c.2.2.2 a.1 a.2.1 a.2.2 nx dn rt)],bq 119 tt [true] [.tmp 4, .tmp 5] sj (fun x=>(x.1.2.1,x.2.1.1,x.2.2.1))⟩
theorem d7:CtxM Tryz.prog d8:=gg fits az (mC qlb (mC qpa (mC im (mC oi (mC oh (mC qlc m0))))))
theorem qfg:ax Tryz.prog d8 0 (lc 4 Tryz.f47 19474735):=lp rfl d7 (.two .z (.two (.one (.d [0,0,0,0,12,28,0,124,252,511,1023] [9,10] [])) .z)) s0 (fun c a=>(((),(),c.1,c.2.1,(),c.2.2.1,(),(pe3 c),(),a.1,()),((a.2.1,()),((pe4 c),(pe5 c),(pe6 c),(pe7 c),(pe8 c),(pe9 c),()),(pe10 c),((pe11 c),(pf12 c),()),(a.2.2.1,a.2.2.2,()),()))) (fun y=>((y.1.2.2.1,(pe3 y.1),(pe5 y.1),(pe7 y.1),y.2.2.1.1,y.2.2.1.2.1,y.2.2.1.2.2.1,(pe3 y.2.2.1),(pe4 y.2.2.1),(pe5 y.2.2.1),(pe3 y),(pe4 y).1,(pe4 y).2.1),(y.2.1.1,(pe5 y).1,(pe5 y).2.1)))
theorem qfh:ax Tryz.prog d8 1 (lc 2 Tryz.f47 76079):=lp rfl d7 (.two .z (.two (.one (.two .z (.two (.two .z (.s 0)) (.d [0,0,0,0,0,0,48,112,252,511,1023] [8,9,10] [])))) .z)) (sC qfg s0) (fun c a=>(((),(),c.1,c.2.1,(),c.2.2.1,(),a.1,()),((a.2.1,()),((pe3 c),(pe4 c),(pe5 c),(pe6 c),(pe7 c),(pe8 c),()),(pf9 c),(a.2.2.1,a.2.2.2,()),()))) (fun y=>((y.1.2.2.1,(pe3 y.1),(pe5 y.1),y.2.2.1.1,y.2.2.1.2.1,y.2.2.1.2.2.1,(pe3 y.2.2.1),(pe4 y.2.2.1),(pe5 y.2.2.1),(pe3 y)),(y.2.1.1,(pe4 y).1,(pe4 y).2.1)))
theorem qfk:ax Tryz.prog d8 4 (lc 8 Tryz.f47 2431):=lp rfl d7 (.two .z (.two .z (.two (.one (.two .z (.d [0,0,0,0,0,24,56,0,252,511,1023] [8,10] []))) .z))) s0 (fun c a=>(((),c.1,(),(),c.2.1,a.1,()),((a.2.1,()),a.2.2,(c.2.2.1,c.2.2.2,()),()))) (fun y=>(y.1.1,(y.2.1.1,y.2.2.1)))
theorem qfj:ax Tryz.prog d8 3 (lc 6 Tryz.f47 1215):=lp rfl d7 .z s0 (fun c a=>(((),c.1,(),(),(),c.2.1,a.1,()),((a.2.1,()),c.2.2,(a.2.2.1,a.2.2.2,()),()))) (fun y=>((y.1.2.1,y.2.2.1),(y.2.1.1,(pe3 y).1,(pe3 y).2.1)))
theorem qfi:ax Tryz.prog d8 2 (lc 0 Tryz.f47 303):=lp rfl d7 (.two .z (.two (.one (.two .z (.two (.two .z (.s 1)) (.d [0,0,0,0,0,0,48,112,0,256,1008,2032,4092,8191,16383] [12,14] [])))) .z)) (sC qfh s0) (fun c a=>(((),(),c.1,c.2.1,(),a.1,()),((a.2.1,()),(c.2.2.1,(pe3 c),(pe4 c),(pe5 c),(pe6 c),(pf7 c),()),a.2.2,()))) (fun y=>(y.1.2.1,(y.2.1.1,y.2.2.1)))
abbrev uc:Mdl:=(aq (.cons (.ptr 0) (.cons (.d false qiq.ty) .nil)) [.cs 107 1 1 (.cons (.d false qT0) .nil)] [true] 2 sj (B:=((List (List ab))×Int×(List ab))) (fun b=>(((),b.1,()),((b.2.1,()),b.2.2,()))) (fun a=>va a.1.2.1 a.2.1.1))
theorem qej:MdlOK Tryz.prog 47 uc:=gf Tryz.func47 rfl d7 (.two .z (.two .z (.two .z (.two (.d [0,0,2,0,15,31] [5] []) (.two (.two .z (.s 2)) (.two .z (.two (.two .z (.s 3)) (.two (.two .z (.s 4)) .z)))))))) (sC qfi (sC qfj (sC qfk s0)))
def qfa:Shp:=⟨[j6k,q2j],[qau]⟩
abbrev qve:Ctx ((Int×(List ab))):=⟨28,tt,false,false,[],fu [(46,qvg),(47,uc)],ge [],bq 28 tt [] [.tmp 2, .tmp 3] qfa (fun x=>(x.1.2.1,x.2.1))⟩
theorem qvd:CtxM Tryz.prog qve:=gg fits az (mC q4z (mC qej m0))
abbrev qg6:Mdl:=(aq (.cons (.d false qiq.ty) .nil) [] [] 2 qfa (B:=(Int×(List ab))) (fun b=>(((),b.1,()),(b.2,()))) (fun a=>qjc a.1.1))
theorem qrn:MdlOK Tryz.prog 21 qg6:=gf Tryz.func21 rfl qvd (.two .z (.two .z (.two .z (.two .z (.two (.two .z (.two (.two (.d [0,1,3,7,0,31] [] []) .z) .z)) .z))))) s0
def qhl:Shp:=⟨[qxo],[]⟩
abbrev qkb:Ctx (Bool):=⟨49,tt,false,false,[],fu [],ge [ar _ 49 [] qt0 (C:=((List ba)×(List ba)×Int)) (S:=Int) (fun x=>((x.1.1,x.1.2.1,x.1.2.2.1),(pe3 x.1))) qtz (CE:=(List ba)) (E:=Unit) (fun c e=>((c,()),(()))) (fun c=>c.1) (fun{R} c a nx dn rt=>qga c.1 c.2.1 c.2.2 a nx dn rt)],bq 49 tt [] [.tmp 2] qhl (fun x=>x.1.1)⟩
theorem qj9:CtxM Tryz.prog qkb:=gg fits az m0
theorem qw0:ax Tryz.prog qkb 0 (lc 0 Tryz.f96 37):=lp rfl qj9 (.two .z (.two .z (.two (.one (.two .z (.two (.d [0,1,3,7,15,31,63,127,255,511,1023,2047,4095,8191,16383,32767,65535,131071,262143,524287,1048575,2097151,4194303,4194303,12582911,33554431,67108863,134217727,4194303,272629759,1073741823,2147483647,4294967295] [] []) .z))) .z))) s0 (fun c a=>((c.1,c.2.1,c.2.2,a,()),(()))) (fun y=>(y.1.1,()))
abbrev qka:Mdl:=(aq (.cons (.d false (.slice ba.ty)) .nil) [] [] 1 qhl (B:=Bool) (fun b=>((b,()),(()))) (fun a=>qnk a.1.1))
theorem qt1:MdlOK Tryz.prog 96 qka:=gf Tryz.func96 rfl qj9 (.two .z (.two (.two .z (.s 0)) .z)) (sC qw0 s0)
def qj7:Shp:=⟨[jds],[]⟩
abbrev q2c:Ctx (Int):=⟨16,tt,false,false,[],fu [(96,qka)],ge [],bq 16 tt [] [.tmp 4] qj7 (fun x=>x.1.1)⟩
theorem q2b:CtxM Tryz.prog q2c:=gg fits az (mC qt1 m0)
abbrev qni:Mdl:=(aq (.cons (.d false (.slice ba.ty)) (.cons (.d false qT0) .nil)) [] [] 1 qj7 (B:=Int) (fun b=>((b,()),(()))) (fun a=>qqf a.1.1 a.1.2.1))
theorem qwx:MdlOK Tryz.prog 48 qni:=gf Tryz.func48 rfl q2b .z s0
def qdb:Shp:=⟨[jds],[]⟩
abbrev qd4:Ctx (Int):=⟨25,tt,false,false,[],fu [],ge [ar _ 25 [] qob (C:=qL1) (S:=(Int×Int)) (fun x=>(x.1.1,(x.1.2.1,x.1.2.2.1))) qoa (CE:=Unit) (E:=Int) (fun c e=>((e,()),(()))) (fun c=>()) (fun{R} c a nx dn rt=>qa8 c a.1 a.2 nx dn rt)],bq 25 tt [] [.tmp 2] qdb (fun x=>x.1.1)⟩
theorem qd2:CtxM Tryz.prog qd4:=gg fits az m0
theorem qql:ax Tryz.prog qd4 0 (lc 0 Tryz.f98 151):=lp rfl qd2 .z s0 (fun c a=>((c,a.1,a.2,()),(()))) (fun y=>((),y.1.1))
abbrev qd3:Mdl:=(aq (.cons (.d false qT1) .nil) [] [] 1 qdb (B:=Int) (fun b=>((b,()),(()))) (fun a=>qgf a.1.1))
theorem qoc:MdlOK Tryz.prog 98 qd3:=gf Tryz.func98 rfl qd2 (.two .z (.two .z (.two .z (.two (.two .z (.s 0)) .z)))) (sC qql s0)
def qap:Shp:=⟨[jds],[]⟩
abbrev qa7:Ctx (Int):=⟨19,tt,false,false,[],fu [],ge [ar _ 19 [] qkj (C:=(qL1×Int×Int)) (S:=Int) (fun x=>((x.1.1,x.1.2.1,x.1.2.2.1),(pe3 x.1))) qki (CE:=Unit) (E:=Unit) (fun c e=>((()),(()))) (fun c=>()) (fun{R} c a nx dn rt=>gv c.1 c.2.1 c.2.2 a nx dn rt)],bq 19 tt [] [.tmp 4] qap (fun x=>x.1.1)⟩
theorem qa6:CtxM Tryz.prog qa7:=gg fits az m0
theorem ql1:ax Tryz.prog qa7 0 (lc 0 Tryz.f97 37):=lp rfl qa6 .z s0 (fun c a=>((c.1,c.2.1,c.2.2,a,()),(()))) (fun y=>((),()))
abbrev qv:Mdl:=(aq (.cons (.d false qT1) (.cons (.d false qT0) .nil)) [] [] 1 qap (B:=Int) (fun b=>((b,()),(()))) (fun a=>m7 a.1.1 a.1.2.1))
theorem yp:MdlOK Tryz.prog 97 qv:=gf Tryz.func97 rfl qa6 (.two .z (.two (.two .z (.s 0)) .z)) (sC ql1 s0)
def qj8:Shp:=⟨[jds,q2j],[]⟩
abbrev q2e:Ctx ((Int×Int)):=⟨9,tt,false,false,[],fu [],ge [],bq 9 tt [] [.tmp 4, .tmp 5] qj8 (fun x=>(x.1.1,x.1.2.1))⟩
theorem q2d:CtxM Tryz.prog q2e:=gg fits az m0
abbrev qnj:Mdl:=(aq (.cons (.d false qT0) (.cons (.d false qT0) .nil)) [] [] 2 qj8 (B:=(Int×Int)) (fun b=>((b.1,b.2,()),(()))) (fun a=>qqg a.1.1 a.1.2.1))
theorem qwy:MdlOK Tryz.prog 50 qnj:=gf Tryz.func50 rfl q2d .z s0
def qd1:Shp:=⟨[j92,q2j],[ju8]⟩
abbrev qgd:Ctx ((Int×(List ba))):=⟨59,tt,false,false,[],fu [(98,qd3),(97,qv),(50,qnj)],ge [ar _ 59 [] qqi (C:=((List ba)×Int)) (S:=(Int×qL1×(List ba))) (fun x=>(((pe3 x.1),(pe4 x.1)),((pe5 x.1),x.2.1,x.2.2.1))) qqh (CE:=Unit) (E:=(List ba)) (fun c e=>(((),()),(e,()))) (fun c=>()) (fun{R} c a nx dn rt=>qc9 c.1 c.2 a.1 a.2.1 a.2.2 nx dn rt)],bq 59 tt [] [.tmp 6, .tmp 7] qd1 (fun x=>(x.1.2.1,x.2.1))⟩
theorem qgb:CtxM Tryz.prog qgd:=gg fits az (mC qoc (mC yp (mC qwy m0)))
theorem qr3:ax Tryz.prog qgd 0 (lc 0 Tryz.f49 151):=lp rfl qgb (.two .z (.two .z (.two (.one (.two .z (.two .z (.two (.d [0,1,0,0,12,28,63,127,255] [8] []) .z)))) .z))) s0 (fun c a=>(((()),(),(),c.1,c.2,a.1,()),(a.2.1,a.2.2,()))) (fun y=>((),y.2.1))
abbrev qgc:Mdl:=(aq (.cons (.d false (.slice ba.ty)) (.cons (.d false qT0) (.cons (.fn 50 .nil) .nil))) [] [] 2 qd1 (B:=(Int×(List ba))) (fun b=>(((),b.1,()),(b.2,()))) (fun a=>qhm a.1.1 a.1.2.1))
theorem qqj:MdlOK Tryz.prog 49 qgc:=gf Tryz.func49 rfl qgb (.two .z (.two .z (.two .z (.two (.two .z (.s 0)) .z)))) (sC qr3 s0)
def qj6:Shp:=⟨[j92,q2j],[ju8]⟩
abbrev q2a:Ctx ((Int×(List ba))):=⟨18,tt,false,false,[],fu [(48,qni),(49,qgc)],ge [],bq 18 tt [] [.tmp 4, .tmp 5] qj6 (fun x=>(x.1.2.1,x.2.1))⟩
theorem q19:CtxM Tryz.prog q2a:=gg fits az (mC qwx (mC qqj m0))
abbrev qnh:Mdl:=(aq (.cons (.d false (.slice ba.ty)) (.cons (.d false qT0) .nil)) [] [] 2 qj6 (B:=(Int×(List ba))) (fun b=>(((),b.1,()),(b.2,()))) (fun a=>qqe a.1.1 a.1.2.1))
theorem qww:MdlOK Tryz.prog 22 qnh:=gf Tryz.func22 rfl q19 .z s0
def qmk:Shp:=⟨[qxo],[]⟩
abbrev q51:Ctx (Bool):=⟨9,tt,false,false,[],fu [],ge [],bq 9 tt [] [.tmp 2] qmk (fun x=>x.1.1)⟩
theorem q50:CtxM Tryz.prog q51:=gg fits az m0
abbrev qpn:Mdl:=(aq (.cons (.d false qT0) .nil) [] [] 1 qmk (B:=Bool) (fun b=>((b,()),(()))) (fun a=>qh6 a.1.1))
theorem qyu:MdlOK Tryz.prog 52 qpn:=gf Tryz.func52 rfl q50 .z s0
def og:Shp:=⟨[jds],[]⟩
abbrev p6:Ctx (Int):=⟨19,tt,false,false,[],fu [(52,qpn)],ge [ar _ 19 [] qbs (C:=(qL1×Int)) (S:=Int) (fun x=>((x.1.1,x.1.2.2.1),(pe3 x.1))) qbr (CE:=Unit) (E:=Unit) (fun c e=>((()),(()))) (fun c=>()) (fun{R} c a nx dn rt=>dz c.1 c.2 a nx dn rt)],bq 19 tt [] [.tmp 4] og (fun x=>x.1.1)⟩
theorem px:CtxM Tryz.prog p6:=gg fits az (mC qyu m0)
theorem qda:ax Tryz.prog p6 0 (lc 0 Tryz.f99 37):=lp rfl px .z s0 (fun c a=>((c.1,(()),c.2,a,()),(()))) (fun y=>((),()))
abbrev pz:Mdl:=(aq (.cons (.d false qT1) (.cons (.fn 52 .nil) .nil)) [] [] 1 og (B:=Int) (fun b=>((b,()),(()))) (fun a=>lq a.1.1))
theorem qbt:MdlOK Tryz.prog 99 pz:=gf Tryz.func99 rfl px (.two .z (.two (.two .z (.s 0)) .z)) (sC qda s0)
def m6:Shp:=⟨[qxo],[]⟩
abbrev qax:Ctx (Bool):=⟨9,tt,false,false,[],fu [(99,pz)],ge [],bq 9 tt [] [.tmp 4] m6 (fun x=>x.1.1)⟩
theorem qaw:CtxM Tryz.prog qax:=gg fits az (mC qbt m0)
abbrev nm:Mdl:=(aq (.cons (.d false qT1) (.cons (.fn 52 .nil) .nil)) [] [] 1 m6 (B:=Bool) (fun b=>((b,()),(()))) (fun a=>fo a.1.1))
theorem y3:MdlOK Tryz.prog 51 nm:=gf Tryz.func51 rfl qaw .z s0
def qss:Shp:=⟨[qxo],[]⟩
abbrev qls:Ctx (Bool):=⟨88,tt,false,false,[],fu [(51,nm)],ge [ar _ 88 [] q5x (C:=(qL1×(List ae)×Int×Int×qL1×Int×qL1×Int×Int)) (S:=Int) (fun x=>((x.1.1,x.1.2.2.1,(pe3 x.1),(pe4 x.1),(pe5 x.1),(pe6 x.1),x.2.1.1,x.2.1.2.1,x.2.1.2.2.1),(pe7 x.1))) q5w (CE:=(qL1×(List ae)×Int×Int)) (E:=Unit) (fun c e=>((c.1,c.2.1,c.2.2.1,c.2.2.2,()),(()))) (fun c=>(c.1,c.2.1,c.2.2.1,(pe3 c))) (fun{R} c a nx dn rt=>zz c.1 c.2.1 c.2.2.1 (pe3 c) (pe4 c) (pe5 c) (pe6 c) (pe7 c) (pf8 c) a nx dn rt),ar _ 88 [] q5z (C:=(qL1×(List ae)×Int)) (S:=Int) (fun x=>((x.1.1,x.1.2.1,x.1.2.2.1),(pe3 x.1))) q5y (CE:=Unit) (E:=Unit) (fun c e=>((()),(()))) (fun c=>()) (fun{R} c a nx dn rt=>z0 c.1 c.2.1 c.2.2 a nx dn rt)],bq 88 tt [] [.tmp 4] qss (fun x=>x.1.1)⟩
theorem qlr:CtxM Tryz.prog qls:=gg fits az (mC y3 m0)
theorem q8k:ax Tryz.prog qls 0 (lc 2 Tryz.f23 40139):=lp rfl qlr .z s0 (fun c a=>((c.1,(),c.2.1,c.2.2.1,(pe3 c),(pe4 c),(pe5 c),a,()),(((pe6 c),(pe7 c),(pf8 c),()),()))) (fun y=>((y.1.1,y.1.2.1,y.1.2.2.1,(pe3 y.1)),()))
theorem q8l:ax Tryz.prog qls 1 (lc 0 Tryz.f23 75):=lp rfl qlr (.two .z (.two .z (.two (.one (.two .z (.two .z (.two .z (.s 0))))) .z))) (sC q8k s0) (fun c a=>((c.1,c.2.1,c.2.2,a,()),(()))) (fun y=>((),()))
abbrev tj:Mdl:=(aq (.cons (.d false qT1) (.cons (.d false (.slice ae.ty)) .nil)) [] [] 1 qss (B:=Bool) (fun b=>((b,()),(()))) (fun a=>n9 a.1.1 a.1.2.1))
theorem sn:MdlOK Tryz.prog 23 tj:=gf Tryz.func23 rfl qlr (.two .z (.two .z (.two (.two .z (.s 1)) .z))) (sC q8l s0)
def qv4:Shp:=⟨[j6k],[qot]⟩
abbrev q04:Ctx (qL1):=⟨20,tt,false,false,[],fu [],ge [ar _ 20 [] q8r (C:=((List ae)×Int)) (S:=(Int×qL1)) (fun x=>((x.1.2.1,x.1.2.2.1),((pe3 x.1),x.2.1))) q8q (CE:=Unit) (E:=qL1) (fun c e=>(((),()),(e,()))) (fun c=>()) (fun{R} c a nx dn rt=>qb4 c.1 c.2 a.1 a.2 nx dn rt)],bq 20 tt [] [.tmp 2] qv4 (fun x=>x.2.1)⟩
theorem q03:CtxM Tryz.prog q04:=gg fits az m0
theorem jde:ax Tryz.prog q04 0 (lc 0 Tryz.f25 75):=lp rfl q03 .z s0 (fun c a=>(((),c.1,c.2,a.1,()),(a.2,()))) (fun y=>((),y.2.1))
abbrev qcx:Mdl:=(aq (.cons (.d false (.slice ae.ty)) .nil) [] [] 1 qv4 (B:=qL1) (fun b=>(((),()),(b,()))) (fun a=>xh a.1.1))
theorem qb5:MdlOK Tryz.prog 25 qcx:=gf Tryz.func25 rfl q03 (.two .z (.two .z (.two (.two .z (.s 0)) .z))) (sC jde s0)
def qs2:Shp:=⟨[jds],[]⟩
abbrev qev:Ctx (Int):=⟨58,tt,false,false,[],fu [],ge [ar _ 58 [] q6h (C:=(qL1×qL1×Int×(List ae)×Int×Int×qL1×Int)) (S:=(Int×qL1)) (fun x=>((x.1.1,x.1.2.1,(pe3 x.1),(pe4 x.1),(pe5 x.1),(pe6 x.1),(pe7 x.1),(pe8 x.1)),((pe9 x.1),x.2.1))) q6g (CE:=(qL1×qL1×(List ae)×Int×Int)) (E:=qL1) (fun c e=>((c.1,c.2.1,(),c.2.2.1,(pe3 c),(pf4 c),()),(e,()))) (fun c=>(c.1,c.2.1,(pe3 c),(pe4 c),(pe5 c))) (fun{R} c a nx dn rt=>qae c.1 c.2.1 c.2.2.1 (pe3 c) (pe4 c) (pe5 c) (pe6 c) (pf7 c) a.1 a.2 nx dn rt),ar _ 58 [] q6j (C:=(qL1×qL1×(List ae)×Int)) (S:=(Int×qL1)) (fun x=>((x.1.1,x.1.2.1,(pe3 x.1),(pe4 x.1)),((pe5 x.1),x.2.1))) q6i (CE:=qL1) (E:=qL1) (fun c e=>((c,(),()),(e,()))) (fun c=>c.1) (fun{R} c a nx dn rt=>qaf c.1 c.2.1 c.2.2.1 c.2.2.2 a.1 a.2 nx dn rt),ar _ 58 [] q6l (C:=(qL1×qL1×Int)) (S:=Int) (fun x=>((x.1.1,x.1.2.1,x.1.2.2.1),(pe3 x.1))) q6k (CE:=Unit) (E:=Unit) (fun c e=>((()),(()))) (fun c=>()) (fun{R} c a nx dn rt=>qag c.1 c.2.1 c.2.2 a nx dn rt)],bq 58 tt [] [.tmp 6] qs2 (fun x=>x.1.1)⟩
theorem qeu:CtxM Tryz.prog qev:=gg fits az m0
theorem q8v:ax Tryz.prog qev 0 (lc 2 Tryz.f24 19659):=lp rfl qeu (.two .z (.two .z (.two (.one (.two .z (.d [0,0,3,7,0,0,48,112,255,511,1023] [10] []))) .z))) s0 (fun c a=>((c.1,c.2.1,(),c.2.2.1,(pe3 c),(pe4 c),(pe5 c),(pe6 c),(pf7 c),a.1,()),(a.2,()))) (fun y=>((y.1.1,y.1.2.1,(pe3 y.1),(pe4 y.1),(pe5 y.1)),y.2.1))
theorem q8x:ax Tryz.prog qev 2 (lc 4 Tryz.f24 151):=lp rfl qeu .z s0 (fun c a=>((c.1,c.2.1,c.2.2,a,()),(()))) (fun y=>((),()))
theorem q8w:ax Tryz.prog qev 1 (lc 0 Tryz.f24 75):=lp rfl qeu (.two .z (.two .z (.two (.one (.two .z (.two .z (.s 0)))) .z))) (sC q8v s0) (fun c a=>((c.1,c.2.1,(),c.2.2.1,c.2.2.2,a.1,()),(a.2,()))) (fun y=>(y.1.1,y.2.1))
abbrev oq:Mdl:=(aq (.cons (.d false qT1) (.cons (.d false (.slice ae.ty)) (.cons (.d false qT1) .nil))) [] [] 1 qs2 (B:=Int) (fun b=>((b,()),(()))) (fun a=>lu a.1.1 a.1.2.1 a.1.2.2.1))
theorem nw:MdlOK Tryz.prog 24 oq:=gf Tryz.func24 rfl qeu (.two .z (.two .z (.two (.two .z (.s 1)) (.two (.two .z (.s 2)) .z)))) (sC q8w (sC q8x s0))
def v8:Shp:=⟨[j6k],[qot]⟩
abbrev qke:Ctx (qL1):=⟨8,tt,false,false,[],fu [],ge [],bq 8 tt [] [.tmp 2] v8 (fun x=>x.2.1)⟩
theorem qkc:CtxM Tryz.prog qke:=gg fits az m0
abbrev qkd:Mdl:=(aq (.cons (.nl false (.d false qT1)) .nil) [] [] 1 v8 (B:=qL1) (fun b=>(((),()),(b,()))) (fun a=>qan a.1.1))
theorem qgr:MdlOK Tryz.prog 53 qkd:=gf Tryz.func53 rfl qkc .z s0
def nh:Shp:=⟨[j6k],[qot]⟩
abbrev qkh:Ctx (qL1):=⟨8,tt,false,false,[],fu [],ge [],bq 8 tt [] [.tmp 2] nh (fun x=>x.2.1)⟩
theorem qkf:CtxM Tryz.prog qkh:=gg fits az m0
abbrev qkg:Mdl:=(aq (.cons (.nl true (.d false qT1)) .nil) [] [] 1 nh (B:=qL1) (fun b=>(((),()),(b,()))) (fun a=>lm a.1.1))
theorem qgs:MdlOK Tryz.prog 53 qkg:=gf Tryz.func53 rfl qkf .z s0
abbrev qi:Mdl:=(aq (.cons (.d false qT1) .nil) [] [] 1 nh (fun(b:qL1)=>(((),()),(b,()))) (fun(a:((qL1×Unit)×(Unit)))=>cj a.1.1))
theorem yl:MdlOK Tryz.prog 53 qi:=by
 refine q92 (jka _ _) qgr qgs (by kernel_rfl) (fun a b h=>⟨?_,h⟩);obtain⟨⟨xs,u1⟩,u2⟩:=a;cases xs with
 |nil=>exact h
 |cons x l=>
  have e:decide ((((x::l).length:Nat):Int)=0)=false:=decide_eq_false (by simp only[List.length_cons];omega);simp only[cj,lm]at h;simp only[qan,e,cond_false];exact h
def d9:Shp:=⟨[],[q0b]⟩
abbrev qad(rec:((Unit×qL1×Int×Unit)×((qL1×(List ae)×(Option Bool×qL1)×Int×Unit)×Unit))→Option (qL1×(List ae)×qL1×(Option Bool)×Int)):Ctx ((qL1×(List ae)×qL1×(Option Bool)×Int)):=⟨93,tt,false,false,[true],fu [(53,qi),(25,qcx),(24,oq),(26,(aq (.cons (.ptr 0) (.cons (.d false qT1) (.cons (.d false qT0) .nil))) [.cs 77 4 1 (.cons (.d true qT1) (.cons (.d true (.slice ae.ty)) (.cons (.nf (.d true qT1)) (.cons (.d false qT0) .nil))))] [true] 0 d9 (B:=(qL1×(List ae)×qL1×(Option Bool)×Int)) (fun b=>((()),((b.1,b.2.1,((pe3 b),b.2.2.1),(pf4 b),()),()))) rec))],ge [ar _ 93 [true] qrw (C:=(qL1×Int×Int×Int)) (S:=(Int×qL1×(List ae)×qL1×(Option Bool)×Int)) (fun x=>((x.1.2.1,x.1.2.2.1,(pe3 x.1),(pe4 x.1)),((pe5 x.1),x.2.1.1,x.2.1.2.1,x.2.1.2.2.1.2,x.2.1.2.2.1.1,(pe3 x.2.1)))) qrv (CE:=Unit) (E:=(qL1×(List ae)×qL1×(Option Bool)×Int)) (fun c e=>((()),((e.1,e.2.1,((pe3 e),e.2.2.1),(pf4 e),()),()))) (fun c=>()) (fun{R} c a nx dn rt=>np rec c.1 c.2.1 c.2.2.1 c.2.2.2 a.1 a.2.1 a.2.2.1 (pe3 a) (pe4 a) (pf5 a) nx dn rt),lg _ 93 [true] qry (A:=(qL1×Int×qL1×(List ae)×qL1×(Option Bool)×Int)) (fun x=>(x.1.2.1,x.1.2.2.1,x.2.1.1,x.2.1.2.1,x.2.1.2.2.1.2,x.2.1.2.2.1.1,(pe3 x.2.1))) qrx (CE:=Unit) (E:=(qL1×(List ae)×qL1×(Option Bool)×Int)) (fun c e=>((()),((e.1,e.2.1,((pe3 e),e.2.2.1),(pf4 e),()),()))) (fun c=>()) (fun{R} c dn rt=>uu rec c.1 c.2.1 c.2.2.1 (pe3 c) (pe4 c) (pe5 c) (pf6 c) dn rt)],bq 93 tt [true] [] d9 (fun x=>(x.2.1.1,x.2.1.2.1,x.2.1.2.2.1.2,x.2.1.2.2.1.1,(pe3 x.2.1)))⟩
theorem qac(rec:((Unit×qL1×Int×Unit)×((qL1×(List ae)×(Option Bool×qL1)×Int×Unit)×Unit))→Option (qL1×(List ae)×qL1×(Option Bool)×Int))(hrec:MdlOK Tryz.prog 26 (aq (.cons (.ptr 0) (.cons (.d false qT1) (.cons (.d false qT0) .nil))) [.cs 77 4 1 (.cons (.d true qT1) (.cons (.d true (.slice ae.ty)) (.cons (.nf (.d true qT1)) (.cons (.d false qT0) .nil))))] [true] 0 d9 (B:=(qL1×(List ae)×qL1×(Option Bool)×Int)) (fun b=>((()),((b.1,b.2.1,((pe3 b),b.2.2.1),(pf4 b),()),()))) rec)):CtxM Tryz.prog (qad rec):=gg fits az (mC yl (mC qb5 (mC nw (mC hrec m0))))
theorem qtw(rec:((Unit×qL1×Int×Unit)×((qL1×(List ae)×(Option Bool×qL1)×Int×Unit)×Unit))→Option (qL1×(List ae)×qL1×(Option Bool)×Int))(hrec:MdlOK Tryz.prog 26 (aq (.cons (.ptr 0) (.cons (.d false qT1) (.cons (.d false qT0) .nil))) [.cs 77 4 1 (.cons (.d true qT1) (.cons (.d true (.slice ae.ty)) (.cons (.nf (.d true qT1)) (.cons (.d false qT0) .nil))))] [true] 0 d9 (B:=(qL1×(List ae)×qL1×(Option Bool)×Int)) (fun b=>((()),((b.1,b.2.1,((pe3 b),b.2.2.1),(pf4 b),()),()))) rec)):ax Tryz.prog (qad rec) 0 (lc 0 Tryz.f26 159):=lp rfl (qac rec hrec) (.two .z (.two .z (.two (.one (.two .z (.d [0,0,2,0,8,30,0,0,0,256,768,1792,0,7936,16128,32512,65408,131008,262143] [5,18] []))) .z))) s0 (fun c a=>(((),c.1,c.2.1,c.2.2.1,c.2.2.2,a.1,()),((a.2.1,a.2.2.1,((pe4 a),(pe3 a)),(pf5 a),()),()))) (fun y=>((),(y.2.1.1,y.2.1.2.1,y.2.1.2.2.1.2,y.2.1.2.2.1.1,(pe3 y.2.1))))
theorem qtx(rec:((Unit×qL1×Int×Unit)×((qL1×(List ae)×(Option Bool×qL1)×Int×Unit)×Unit))→Option (qL1×(List ae)×qL1×(Option Bool)×Int))(hrec:MdlOK Tryz.prog 26 (aq (.cons (.ptr 0) (.cons (.d false qT1) (.cons (.d false qT0) .nil))) [.cs 77 4 1 (.cons (.d true qT1) (.cons (.d true (.slice ae.ty)) (.cons (.nf (.d true qT1)) (.cons (.d false qT0) .nil))))] [true] 0 d9 (B:=(qL1×(List ae)×qL1×(Option Bool)×Int)) (fun b=>((()),((b.1,b.2.1,((pe3 b),b.2.2.1),(pf4 b),()),()))) rec)):ax Tryz.prog (qad rec) 1 (jc Tryz.f26 3):=jn rfl (qac rec hrec) (.two .z (.two (.two (.d [0,1,3,7,0,16,48,112,0,256,0,1024,3072,7168,16128,0,65280,130816,262143,524287] [17,18,19] []) .z) (.two .z (.two .z (.s 0))))) (sC (qtw rec hrec) s0) (fun c=>(((),c.1,c.2.1,()),((c.2.2.1,(pe3 c),((pe5 c),(pe4 c)),(pf6 c),()),()))) (fun y=>((),(y.2.1.1,y.2.1.2.1,y.2.1.2.2.1.2,y.2.1.2.2.1.1,(pe3 y.2.1))))
abbrev qhe:Mdl:=(aq (.cons (.ptr 0) (.cons (.d false qT1) (.cons (.d false qT0) .nil))) [.cs 77 4 1 (.cons (.d true qT1) (.cons (.d true (.slice ae.ty)) (.cons (.nf (.d true qT1)) (.cons (.d false qT0) .nil))))] [true] 0 d9 (B:=(qL1×(List ae)×qL1×(Option Bool)×Int)) (fun b=>((()),((b.1,b.2.1,((pe3 b),b.2.2.1),(pf4 b),()),()))) (fun(a:((Unit×qL1×Int×Unit)×((qL1×(List ae)×(Option Bool×qL1)×Int×Unit)×Unit)))=>qhf a))
theorem qpv(rec:((Unit×qL1×Int×Unit)×((qL1×(List ae)×(Option Bool×qL1)×Int×Unit)×Unit))→Option (qL1×(List ae)×qL1×(Option Bool)×Int))(hrec:MdlOK Tryz.prog 26 (aq (.cons (.ptr 0) (.cons (.d false qT1) (.cons (.d false qT0) .nil))) [.cs 77 4 1 (.cons (.d true qT1) (.cons (.d true (.slice ae.ty)) (.cons (.nf (.d true qT1)) (.cons (.d false qT0) .nil))))] [true] 0 d9 (B:=(qL1×(List ae)×qL1×(Option Bool)×Int)) (fun b=>((()),((b.1,b.2.1,((pe3 b),b.2.2.1),(pf4 b),()),()))) rec)):MdlOK Tryz.prog 26 (aq (.cons (.ptr 0) (.cons (.d false qT1) (.cons (.d false qT0) .nil))) [.cs 77 4 1 (.cons (.d true qT1) (.cons (.d true (.slice ae.ty)) (.cons (.nf (.d true qT1)) (.cons (.d false qT0) .nil))))] [true] 0 d9 (B:=(qL1×(List ae)×qL1×(Option Bool)×Int)) (fun b=>((()),((b.1,b.2.1,((pe3 b),b.2.2.1),(pf4 b),()),()))) ((fun(rec:((Unit×qL1×Int×Unit)×((qL1×(List ae)×(Option Bool×qL1)×Int×Unit)×Unit))→Option (qL1×(List ae)×qL1×(Option Bool)×Int)) (a:((Unit×qL1×Int×Unit)×((qL1×(List ae)×(Option Bool×qL1)×Int×Unit)×Unit)))=>io rec a.1.2.1 a.1.2.2.1 a.2.1.1 a.2.1.2.1 a.2.1.2.2.1.2 a.2.1.2.2.1.1 (pe3 a.2.1)) rec)):=gf Tryz.func26 rfl (qac rec hrec) (.two .z (.s 1)) (sC (qtx rec hrec) s0)
theorem qrz:MdlOK Tryz.prog 26 qhe:=jhr (B:=(qL1×(List ae)×qL1×(Option Bool)×Int)) (c:=qte Tryz.f26) (l:=(.cons (.ptr 0) (.cons (.d false qT1) (.cons (.d false qT0) .nil)))) (objs:=[.cs 77 4 1 (.cons (.d true qT1) (.cons (.d true (.slice ae.ty)) (.cons (.nf (.d true qT1)) (.cons (.d false qT0) .nil))))]) (kp:=[true]) (k:=0) (sh:=d9) (mk:=(fun b=>((()),((b.1,b.2.1,((pe3 b),b.2.2.1),(pf4 b),()),())))) (F:=(fun(rec:((Unit×qL1×Int×Unit)×((qL1×(List ae)×(Option Bool×qL1)×Int×Unit)×Unit))→Option (qL1×(List ae)×qL1×(Option Bool)×Int)) (a:((Unit×qL1×Int×Unit)×((qL1×(List ae)×(Option Bool×qL1)×Int×Unit)×Unit)))=>io rec a.1.2.1 a.1.2.2.1 a.2.1.1 a.2.1.2.1 a.2.1.2.2.1.2 a.2.1.2.2.1.1 (pe3 a.2.1))) Tryz.func26 (by rfl) (by kernel_rfl) (by kernel_rfl) qpv
def qsx:Shp:=⟨[(0, .d true au.ty)],[]⟩
abbrev jdd:Ctx (au):=⟨9,tt,false,false,[],fu [(25,qcx)],ge [],bq 9 tt [] [.cell 2 85] qsx (fun x=>x.1.1)⟩
theorem jdc:CtxM Tryz.prog jdd:=gg fits az (mC qb5 m0)
abbrev qeq:Mdl:=(aq (.cons (.d false (.slice ae.ty)) .nil) [] [] 1 qsx (B:=au) (fun b=>((b,()),(()))) (fun a=>yb a.1.1))
theorem qfr:MdlOK Tryz.prog 28 qeq:=gf Tryz.func28 rfl jdc (.two .z (.two (.d [0,1,3,0,8,31,63] [6] []) .z)) s0
def qs3:Shp:=⟨[jdq],[]⟩
abbrev jdi:Ctx (ab):=⟨5,tt,false,false,[],fu [],ge [],bq 5 tt [] [.cell 2 49] qs3 (fun x=>x.1.1)⟩
theorem jdh:CtxM Tryz.prog jdi:=gg fits az m0
abbrev gl:Mdl:=(aq (.cons (.d false qT0) .nil) [] [] 1 qs3 (B:=ab) (fun b=>((b,()),(()))) (fun a=>bd a.1.1))
theorem fc:MdlOK Tryz.prog 59 gl:=gf Tryz.func59 rfl jdh .z s0
def qua:Shp:=⟨[j9z,j7a],[]⟩
abbrev jd7:Ctx ((Int×Int)):=⟨51,tt,false,false,[],fu [],ge [],bq 51 tt [] [.tmp 4, .tmp 5] qua (fun x=>(x.1.1,x.1.2.1))⟩
theorem jd6:CtxM Tryz.prog jd7:=gg fits az m0
abbrev q0d:Mdl:=(aq (.cons (.d false (.int .u64)) (.cons (.d false (.int .u64)) .nil)) [] [] 2 qua (B:=(Int×Int)) (fun b=>((b.1,b.2,()),(()))) (fun a=>q29 a.1.1 a.1.2.1))
theorem q7i:MdlOK Tryz.prog 117 q0d:=gf Tryz.func117 rfl jd6 .z s0
def q3a:Shp:=⟨[j9z,j7a],[]⟩
abbrev jkx:Ctx ((Int×Int)):=⟨30,tt,false,false,[],fu [(117,q0d)],ge [],bq 30 tt [] [.tmp 4, .tmp 5] q3a (fun x=>(x.1.1,x.1.2.1))⟩
theorem jkw:CtxM Tryz.prog jkx:=gg fits az (mC q7i m0)
abbrev q89:Mdl:=(aq (.cons (.d false (.int .u64)) (.cons (.d false (.int .u64)) .nil)) [] [] 2 q3a (B:=(Int×Int)) (fun b=>((b.1,b.2,()),(()))) (fun a=>jd5 a.1.1 a.1.2.1))
theorem jd8:MdlOK Tryz.prog 103 q89:=gf Tryz.func103 rfl jkw .z s0
def mj:Shp:=⟨[j6k],[qau]⟩
abbrev m9:Ctx ((List ab)):=⟨48,tt,false,false,[],fu [(103,q89)],ge [ar _ 48 [] xk (C:=Unit) (S:=(Int×(List ab))) (fun x=>((),(x.1.2.1,x.2.1))) xj (CE:=Unit) (E:=(List ab)) (fun c e=>(((),()),(e,()))) (fun c=>()) (fun{R} c a nx dn rt=>ma a.1 a.2 nx dn rt)],bq 48 tt [] [.tmp 4] mj (fun x=>x.2.1)⟩
theorem m8:CtxM Tryz.prog m9:=gg fits az (mC jd8 m0)
theorem y5:ax Tryz.prog m9 0 (lc 0 Tryz.f68 575):=lp rfl m8 (.two .z (.one (.d [0,0,0,6,0,0,48,126,255,511] [7,8,9] []))) s0 (fun c a=>(((),a.1,()),(a.2,()))) (fun y=>((),y.2.1))
abbrev dk:Mdl:=(aq (.cons (.d false (.slice ab.ty)) (.cons (.d false qT0) .nil)) [] [] 1 mj (B:=(List ab)) (fun b=>(((),()),(b,()))) (fun a=>br a.1.1 a.1.2.1))
theorem ea:MdlOK Tryz.prog 68 dk:=gf Tryz.func68 rfl m8 (.two .z (.two .z (.two .z (.two .z (.two .z (.two .z (.two (.s 0) .z))))))) (sC y5 s0)
def uo:Shp:=⟨[qxo],[]⟩
abbrev qim:Ctx (Bool):=⟨9,tt,false,false,[],fu [(97,qv)],ge [],bq 9 tt [] [.tmp 4] uo (fun x=>x.1.1)⟩
theorem qil:CtxM Tryz.prog qim:=gg fits az (mC yp m0)
abbrev wb:Mdl:=(aq (.cons (.d false qT1) (.cons (.d false qT0) .nil)) [] [] 1 uo (B:=Bool) (fun b=>((b,()),(()))) (fun a=>la a.1.1 a.1.2.1))
theorem qge:MdlOK Tryz.prog 63 wb:=gf Tryz.func63 rfl qil .z s0
def qhb:Shp:=⟨[qxo],[]⟩
abbrev qy2:Ctx (Bool):=⟨12,tt,false,false,[],fu [(63,wb)],ge [],bq 12 tt [] [.tmp 4] qhb (fun x=>x.1.1)⟩
theorem qy1:CtxM Tryz.prog qy2:=gg fits az (mC qge m0)
abbrev qjk:Mdl:=(aq (.cons (.d false qT0) (.cons (.rp false (.slice ae.ty)) (.cons (.rp false qT0) .nil))) [] [] 1 qhb (B:=Bool) (fun b=>((b,()),(()))) (fun a=>qdk a.1.1 a.1.2.1 a.1.2.2.1))
theorem qtt:MdlOK Tryz.prog 62 qjk:=gf Tryz.func62 rfl qy1 (.two .z (.two (.d [0,0,3,7,15,0,63,127] [] []) .z)) s0
def qmu:Shp:=⟨[j6k],[qau]⟩
abbrev qpy:Ctx ((List ab)):=⟨25,tt,false,false,[],fu [(62,qjk),(59,gl)],ge [ar _ 25 [] qy8 (C:=((List ae)×Int×Int)) (S:=(Int×(List ab))) (fun x=>((x.1.1.1,x.1.1.2.1,x.1.2.2.1),((pe3 x.1),x.2.1))) qy7 (CE:=Unit) (E:=(List ab)) (fun c e=>(((),()),(e,()))) (fun c=>()) (fun{R} c a nx dn rt=>tp c.1 c.2.1 c.2.2 a.1 a.2 nx dn rt)],bq 25 tt [] [.tmp 4] qmu (fun x=>x.2.1)⟩
theorem qpw:CtxM Tryz.prog qpy:=gg fits az (mC qtt (mC fc m0))
theorem q1v:ax Tryz.prog qpy 0 (lc 0 Tryz.f61 75):=lp rfl qpw .z s0 (fun c a=>(((c.1,c.2.1,()),(),c.2.2,a.1,()),(a.2,()))) (fun y=>((),y.2.1))
abbrev qpx:Mdl:=(aq (.cons (.d false qT0) (.cons (.fn 62 (.cons (.rp false (.slice ae.ty)) (.cons (.rp false qT0) .nil))) .nil)) [] [] 1 qmu (B:=(List ab)) (fun b=>(((),()),(b,()))) (fun a=>qb6 a.1.1 a.1.2.1.1 a.1.2.1.2.1))
theorem qy9:MdlOK Tryz.prog 61 qpx:=gf Tryz.func61 rfl qpw (.two .z (.two .z (.two (.two .z (.s 0)) .z))) (sC q1v s0)
def qcy:Shp:=⟨[],[jkm,qkm,qot,qau]⟩
abbrev qrq:Ctx (((List ab)×(List (List ab))×qL1×(List ab))):=⟨30,tt,false,false,[true,false,false,false],fu [(61,qpx),(59,gl)],ge [],bq 30 tt [true,false,false,false] [] qcy (fun x=>(x.2.1.1,x.2.2.1,(pe3 x),(pe4 x)))⟩
theorem qrp:CtxM Tryz.prog qrq:=gg fits az (mC qy9 (mC fc m0))
abbrev qdw:Mdl:=(aq (.cons (.fn 62 (.cons (.rp false (.slice ae.ty)) (.cons (.rp false qT0) .nil))) (.cons (.d false qT0) (.cons (.d false qT0) (.cons (.ptr 0) (.cons (.rp false (.slice ae.ty)) .nil))))) [jkm,qkm,qot,qau] [true,false,false,false] 0 qcy (B:=((List ab)×(List (List ab))×qL1×(List ab))) (fun b=>((()),((b.1,(),(),(),()),b.2.1,b.2.2.1,b.2.2.2,()))) (fun a=>oj a.1.1.1 a.1.1.2.1 a.1.2.1 a.1.2.2.1 (pe4 a.1) a.2.1.1 a.2.2.1 (pe3 a) (pe4 a)))
theorem qn1:MdlOK Tryz.prog 60 qdw:=gf Tryz.func60 rfl qrp (.two (.d [0,1,0,4,0,28,60,127,255,511] [7,9] []) (.two .z (.d [0,1,0,4,12,31,63,127] [5,7] []))) s0
def qhc:Shp:=⟨[qxo],[]⟩
abbrev qy4:Ctx (Bool):=⟨7,tt,false,false,[],fu [],ge [],bq 7 tt [] [.tmp 3] qhc (fun x=>x.1.1)⟩
theorem qy3:CtxM Tryz.prog qy4:=gg fits az m0
abbrev qjl:Mdl:=(aq (.cons (.d false qT0) (.cons (.rp false qT0) .nil)) [] [] 1 qhc (B:=Bool) (fun b=>((b,()),(()))) (fun a=>qdl a.1.1 a.1.2.1))
theorem qtu:MdlOK Tryz.prog 64 qjl:=gf Tryz.func64 rfl qy3 .z s0
def qmw:Shp:=⟨[j6k],[qau]⟩
abbrev qp1:Ctx ((List ab)):=⟨25,tt,false,false,[],fu [(64,qjl),(59,gl)],ge [ar _ 25 [] qzb (C:=(Int×Int)) (S:=(Int×(List ab))) (fun x=>((x.1.1.1,x.1.2.2.1),((pe3 x.1),x.2.1))) qza (CE:=Unit) (E:=(List ab)) (fun c e=>(((),()),(e,()))) (fun c=>()) (fun{R} c a nx dn rt=>tq c.1 c.2 a.1 a.2 nx dn rt)],bq 25 tt [] [.tmp 4] qmw (fun x=>x.2.1)⟩
theorem qpz:CtxM Tryz.prog qp1:=gg fits az (mC qtu (mC fc m0))
theorem q1w:ax Tryz.prog qp1 0 (lc 0 Tryz.f61 75):=lp rfl qpz .z s0 (fun c a=>(((c.1,()),(),c.2,a.1,()),(a.2,()))) (fun y=>((),y.2.1))
abbrev qp0:Mdl:=(aq (.cons (.d false qT0) (.cons (.fn 64 (.cons (.rp false qT0) .nil)) .nil)) [] [] 1 qmw (B:=(List ab)) (fun b=>(((),()),(b,()))) (fun a=>qb7 a.1.1 a.1.2.1.1))
theorem qzc:MdlOK Tryz.prog 61 qp0:=gf Tryz.func61 rfl qpz (.two .z (.two .z (.two (.two .z (.s 0)) .z))) (sC q1w s0)
def qcz:Shp:=⟨[],[jkm,qkm,qot,qau]⟩
abbrev qrs:Ctx (((List ab)×(List (List ab))×qL1×(List ab))):=⟨30,tt,false,false,[true,false,false,false],fu [(61,qp0),(59,gl)],ge [],bq 30 tt [true,false,false,false] [] qcz (fun x=>(x.2.1.1,x.2.2.1,(pe3 x),(pe4 x)))⟩
theorem qrr:CtxM Tryz.prog qrs:=gg fits az (mC qzc (mC fc m0))
abbrev qdx:Mdl:=(aq (.cons (.fn 64 (.cons (.rp false qT0) .nil)) (.cons (.d false qT0) (.cons (.d false qT0) (.cons (.ptr 0) (.cons (.rp false (.slice ae.ty)) .nil))))) [jkm,qkm,qot,qau] [true,false,false,false] 0 qcz (B:=((List ab)×(List (List ab))×qL1×(List ab))) (fun b=>((()),((b.1,(),(),(),()),b.2.1,b.2.2.1,b.2.2.2,()))) (fun a=>ol a.1.1.1 a.1.2.1 a.1.2.2.1 (pe4 a.1) a.2.1.1 a.2.2.1 (pe3 a) (pe4 a)))
theorem qn2:MdlOK Tryz.prog 60 qdx:=gf Tryz.func60 rfl qrr (.two (.d [0,1,0,4,0,28,60,127,255,511] [7,9] []) (.two .z (.d [0,1,0,4,12,31,63,127] [5,7] []))) s0
def qhd:Shp:=⟨[qxo],[]⟩
abbrev qy6:Ctx (Bool):=⟨7,tt,false,false,[],fu [],ge [],bq 7 tt [] [.tmp 3] qhd (fun x=>x.1.1)⟩
theorem qy5:CtxM Tryz.prog qy6:=gg fits az m0
abbrev qjm:Mdl:=(aq (.cons (.d false qT0) (.cons (.rp false qT0) .nil)) [] [] 1 qhd (B:=Bool) (fun b=>((b,()),(()))) (fun a=>qmq a.1.1 a.1.2.1))
theorem qtv:MdlOK Tryz.prog 65 qjm:=gf Tryz.func65 rfl qy5 .z s0
def qmx:Shp:=⟨[j6k],[qau]⟩
abbrev qp4:Ctx ((List ab)):=⟨25,tt,false,false,[],fu [(65,qjm),(59,gl)],ge [ar _ 25 [] qze (C:=(Int×Int)) (S:=(Int×(List ab))) (fun x=>((x.1.1.1,x.1.2.2.1),((pe3 x.1),x.2.1))) qzd (CE:=Unit) (E:=(List ab)) (fun c e=>(((),()),(e,()))) (fun c=>()) (fun{R} c a nx dn rt=>qjq c.1 c.2 a.1 a.2 nx dn rt)],bq 25 tt [] [.tmp 4] qmx (fun x=>x.2.1)⟩
theorem qp2:CtxM Tryz.prog qp4:=gg fits az (mC qtv (mC fc m0))
theorem q1y:ax Tryz.prog qp4 0 (lc 0 Tryz.f61 75):=lp rfl qp2 .z s0 (fun c a=>(((c.1,()),(),c.2,a.1,()),(a.2,()))) (fun y=>((),y.2.1))
abbrev qp3:Mdl:=(aq (.cons (.d false qT0) (.cons (.fn 65 (.cons (.rp false qT0) .nil)) .nil)) [] [] 1 qmx (B:=(List ab)) (fun b=>(((),()),(b,()))) (fun a=>qia a.1.1 a.1.2.1.1))
theorem qzf:MdlOK Tryz.prog 61 qp3:=gf Tryz.func61 rfl qp2 (.two .z (.two .z (.two (.two .z (.s 0)) .z))) (sC q1y s0)
def qc0:Shp:=⟨[],[jkm,qkm,qot,qau]⟩
abbrev qru:Ctx (((List ab)×(List (List ab))×qL1×(List ab))):=⟨30,tt,false,false,[true,false,false,false],fu [(61,qp3),(59,gl)],ge [],bq 30 tt [true,false,false,false] [] qc0 (fun x=>(x.2.1.1,x.2.2.1,(pe3 x),(pe4 x)))⟩
theorem qrt:CtxM Tryz.prog qru:=gg fits az (mC qzf (mC fc m0))
abbrev qdy:Mdl:=(aq (.cons (.fn 65 (.cons (.rp false qT0) .nil)) (.cons (.d false qT0) (.cons (.d false qT0) (.cons (.ptr 0) (.cons (.rp false (.slice ae.ty)) .nil))))) [jkm,qkm,qot,qau] [true,false,false,false] 0 qc0 (B:=((List ab)×(List (List ab))×qL1×(List ab))) (fun b=>((()),((b.1,(),(),(),()),b.2.1,b.2.2.1,b.2.2.2,()))) (fun a=>om a.1.1.1 a.1.2.1 a.1.2.2.1 (pe4 a.1) a.2.1.1 a.2.2.1 (pe3 a) (pe4 a)))
theorem qn3:MdlOK Tryz.prog 60 qdy:=gf Tryz.func60 rfl qrt (.two (.d [0,1,0,4,0,28,60,127,255,511] [7,9] []) (.two .z (.d [0,1,0,4,12,31,63,127] [5,7] []))) s0
def qmp:Shp:=⟨[(0, .d true Program.ty),(1, .nl false (.d true qT1))],[]⟩
abbrev qab:Ctx ((Program×qL1)):=⟨80,tt,false,false,[],fu [(59,gl),(60,qdw),(60,qdx),(60,qdy)],ge [ar _ 80 [] qyw (C:=(qL1×(List ae)×Int×(List ae)×qL1×qL1×(List ab)×(List (List ab))×qL1×(List ab)×qL1×(List (List ab))×qL1×(List ab))) (S:=(Int×(List ab))) (fun x=>((x.1.1,(pe6 x.1),(pe7 x.1),x.2.1.1,x.2.2.1.1,x.2.2.1.2.1,(pe3 x).1,(pe3 x).2.1,(pe3 x).2.2.1,(pe3 (pe3 x)),(pe5 x),(pe7 x),(pe8 x),(pe9 x)),((pe8 x.1),(pe6 x)))) qyv (CE:=(qL1×(List ae)×qL1×qL1×(List ab)×(List (List ab))×qL1×(List ab)×qL1×(List (List ab))×qL1×(List ab))) (E:=(List ab)) (fun c e=>((c.1,(),(),(),(),(),()),((c.2.1,()),(c.2.2.1,(pe3 c),()),((pe4 c),(pe5 c),(pe6 c),(pe7 c),()),((),(),(),(),()),(pe8 c),e,(pe9 c),(pe10 c),(pf11 c),()))) (fun c=>(c.1,(pe3 c),(pe4 c),(pe5 c),(pe6 c),(pe7 c),(pe8 c),(pe9 c),(pe10 c),(pe11 c),(pe12 c),(pf13 c))) (fun{R} c a nx dn rt=>tl c.1 c.2.1 c.2.2.1 (pe3 c) (pe4 c) (pe5 c) (pe6 c) (pe7 c) (pe8 c) (pe9 c) (pe10 c) (pe11 c) (pe12 c) (pf13 c) a.1 a.2 nx dn rt),ar _ 80 [] qyy (C:=(qL1×Int×(List ae)×qL1×qL1×(List ab)×(List (List ab))×qL1×(List ab))) (S:=(Int×(List ab)×qL1×(List (List ab))×qL1×(List ab))) (fun x=>(((pe6 x.1),(pe7 x.1),x.2.1.1,x.2.2.1.1,x.2.2.1.2.1,(pe3 x).1,(pe3 x).2.1,(pe3 x).2.2.1,(pe3 (pe3 x))),((pe8 x.1),(pe4 x).1,(pe5 x),(pe6 x),(pe7 x),(pe8 x)))) qyx (CE:=((List ae)×qL1×qL1×(List ab)×(List (List ab))×qL1×(List ab))) (E:=((List ab)×qL1×(List (List ab))×qL1×(List ab))) (fun c e=>(((),(),(),(),(),((),(),()),()),((c.1,()),(c.2.1,c.2.2.1,()),((pe3 c),(pe4 c),(pe5 c),(pf6 c),()),(e.1,(),(),(),()),e.2.1,e.2.2.1,(pe3 e),(pf4 e),()))) (fun c=>(c.2.2.1,(pe3 c),(pe4 c),(pe5 c),(pe6 c),(pe7 c),(pf8 c))) (fun{R} c a nx dn rt=>tm c.1 c.2.1 c.2.2.1 (pe3 c) (pe4 c) (pe5 c) (pe6 c) (pe7 c) (pf8 c) a.1 a.2.1 a.2.2.1 (pe3 a) (pe4 a) (pf5 a) nx dn rt),ar _ 80 [] qy0 (C:=(qL1×Int×qL1×qL1×(List ab)×(List (List ab))×qL1×(List ab)×(List ae))) (S:=(Int×(List ab)×(List (List ab))×qL1×(List ab))) (fun x=>(((pe3 x.1),(pe5 x.1),x.2.1.1,x.2.1.2.1,x.2.2.1.1,x.2.2.1.2.1,x.2.2.1.2.2.1,(pe3 x.2.2.1),(pe4 x).1),((pe6 x.1),(pe3 x).1,(pe5 x),(pe6 x),(pe7 x)))) qyz (CE:=(qL1×(List ab)×(List (List ab))×qL1×(List ab))) (E:=((List ab)×(List (List ab))×qL1×(List ab))) (fun c e=>(((),(),c.1,()),((c.2.1,c.2.2.1,(pe3 c),(pf4 c),()),(e.1,(),(),(),()),e.2.1,e.2.2.1,e.2.2.2,()))) (fun c=>(c.1,(pe4 c),(pe5 c),(pe6 c),(pe7 c))) (fun{R} c a nx dn rt=>tn c.1 c.2.1 c.2.2.1 (pe3 c) (pe4 c) (pe5 c) (pe6 c) (pe7 c) (pf8 c) a.1 a.2.1 a.2.2.1 (pe3 a) (pf4 a) nx dn rt)],bq 80 tt [] [.cell 6 45, .tmp 7] qmp (fun x=>(x.1.1,x.1.2.1))⟩
theorem qaa:CtxM Tryz.prog qab:=gg fits az (mC fc (mC qn1 (mC qn2 (mC qn3 m0))))
theorem q1r:ax Tryz.prog qab 2 (lc 4 Tryz.f33 1215):=lp rfl qaa .z s0 (fun c a=>(((),(),(),c.1,((),(),()),c.2.1,a.1,()),((c.2.2.1,(pe3 c),()),((pe4 c),(pe5 c),(pe6 c),(pe7 c),()),(a.2.1,(),(),(),()),((pf8 c),()),a.2.2.1,(pe3 a),(pf4 a),()))) (fun y=>((y.1.2.2.1,y.2.1.1,y.2.1.2.1,y.2.1.2.2.1,(pe3 y.2.1)),(y.2.2.1.1,(pe3 y),(pe4 y),(pe5 y))))
theorem q1q:ax Tryz.prog qab 1 (lc 2 Tryz.f33 607):=lp rfl qaa .z s0 (fun c a=>(((),(),(),(),(),((),(),()),c.1,c.2.1,a.1,()),((c.2.2.1,()),((pe3 c),(pe4 c),()),((pe5 c),(pe6 c),(pe7 c),(pf8 c),()),(a.2.1,(),(),(),()),a.2.2.1,(pe3 a),(pe4 a),(pf5 a),()))) (fun y=>((y.2.1.1,y.2.2.1.1,y.2.2.1.2.1,(pe3 y).1,(pe3 y).2.1,(pe3 y).2.2.1,(pe3 (pe3 y))),((pe4 y).1,(pe5 y),(pe6 y),(pe7 y),(pe8 y))))
theorem q1p:ax Tryz.prog qab 0 (lc 0 Tryz.f33 151):=lp rfl qaa (.two .z (.two .z (.two (.one (.two .z (.d [0,1,0,4,12,28,63,127,255] [6,8] []))) .z))) s0 (fun c a=>((c.1,(),(),(),(),(),c.2.1,c.2.2.1,a.1,()),(((pe3 c),()),((pe4 c),(pe5 c),()),((pe6 c),(pe7 c),(pe8 c),(pe9 c),()),((),(),(),(),()),(pe10 c),a.2,(pe11 c),(pe12 c),(pf13 c),()))) (fun y=>((y.1.1,y.2.1.1,y.2.2.1.1,y.2.2.1.2.1,(pe3 y).1,(pe3 y).2.1,(pe3 y).2.2.1,(pe3 (pe3 y)),(pe5 y),(pe7 y),(pe8 y),(pe9 y)),(pe6 y)))
abbrev qfs:Mdl:=(aq (.cons (.d false qT1) (.cons (.d false (.slice ae.ty)) (.cons (.d false au.ty) .nil))) [] [] 2 qmp (B:=(Program×qL1)) (fun b=>((b.1,b.2,()),(()))) (fun a=>vi a.1.1 a.1.2.1 a.1.2.2.1))
theorem qjn:MdlOK Tryz.prog 33 qfs:=gf Tryz.func33 rfl qaa (.two .z (.two .z (.two .z (.two (.two .z (.s 0)) (.two .z (.two (.two .z (.s 1)) (.two (.two .z (.s 2)) .z))))))) (sC q1p (sC q1q (sC q1r s0)))
def qjw:Shp:=⟨[qxo],[]⟩
abbrev q15:Ctx (Bool):=⟨6,tt,false,false,[],fu [(44,xr)],ge [],bq 6 tt [] [.tmp 2] qjw (fun x=>x.1.1)⟩
theorem q14:CtxM Tryz.prog q15:=gg fits az (mC u5 m0)
abbrev qm9:Mdl:=(aq (.cons (.d false ab.ty) .nil) [] [] 1 qjw (B:=Bool) (fun b=>((b,()),(()))) (fun a=>qf0 a.1.1))
theorem qwe:MdlOK Tryz.prog 79 qm9:=gf Tryz.func79 rfl q14 .z s0
def j5:Shp:=⟨[jds],[]⟩
abbrev ky:Ctx (Int):=⟨19,tt,false,false,[],fu [(79,qm9)],ge [ar _ 19 [] qq (C:=((List ab)×Int)) (S:=Int) (fun x=>((x.1.1,x.1.2.2.1),(pe3 x.1))) qp (CE:=Unit) (E:=Unit) (fun c e=>((()),(()))) (fun c=>()) (fun{R} c a nx dn rt=>cb c.1 c.2 a nx dn rt)],bq 19 tt [] [.tmp 4] j5 (fun x=>x.1.1)⟩
theorem kq:CtxM Tryz.prog ky:=gg fits az (mC qwe m0)
theorem rj:ax Tryz.prog ky 0 (lc 0 Tryz.f72 37):=lp rfl kq .z s0 (fun c a=>((c.1,(()),c.2,a,()),(()))) (fun y=>((),()))
abbrev kw:Mdl:=(aq (.cons (.d false (.slice ab.ty)) (.cons (.fn 79 .nil) .nil)) [] [] 1 j5 (B:=Int) (fun b=>((b,()),(()))) (fun a=>fp a.1.1))
theorem qr:MdlOK Tryz.prog 72 kw:=gf Tryz.func72 rfl kq (.two .z (.two (.two .z (.s 0)) .z)) (sC rj s0)
def iu:Shp:=⟨[qxo],[]⟩
abbrev pe:Ctx (Bool):=⟨9,tt,false,false,[],fu [(72,kw)],ge [],bq 9 tt [] [.tmp 4] iu (fun x=>x.1.1)⟩
theorem pd:CtxM Tryz.prog pe:=gg fits az (mC qr m0)
abbrev ja:Mdl:=(aq (.cons (.d false (.slice ab.ty)) (.cons (.fn 79 .nil) .nil)) [] [] 1 iu (B:=Bool) (fun b=>((b,()),(()))) (fun a=>eu a.1.1))
theorem n7:MdlOK Tryz.prog 78 ja:=gf Tryz.func78 rfl pd .z s0
def qqa:Shp:=⟨[qxo],[]⟩
abbrev q80:Ctx (Bool):=⟨14,tt,false,false,[],fu [(78,ja)],ge [],bq 14 tt [] [.tmp 4] qqa (fun x=>x.1.1)⟩
theorem q8z:CtxM Tryz.prog q80:=gg fits az (mC n7 m0)
abbrev vk:Mdl:=(aq (.cons (.d false (.slice ab.ty)) (.cons (.d false qT0) .nil)) [] [] 1 qqa (B:=Bool) (fun b=>((b,()),(()))) (fun a=>fj a.1.1 a.1.2.1))
theorem wl:MdlOK Tryz.prog 37 vk:=gf Tryz.func37 rfl q8z .z s0
def qm2:Shp:=⟨[qxo],[]⟩
abbrev qp7:Ctx (Bool):=⟨85,tt,false,false,[],fu [(37,vk)],ge [ar _ 85 [] qzi (C:=(Int×(List (List ab))×Int×(List ab)×(List (List ab))×qL1×(List ab))) (S:=Int) (fun x=>((x.1.2.1,x.1.2.2.1,(pe3 x.1),x.2.1.1,x.2.1.2.1,x.2.1.2.2.1,(pe3 x.2.1)),(pe4 x.1))) qzh (CE:=Unit) (E:=Unit) (fun c e=>((()),(()))) (fun c=>()) (fun{R} c a nx dn rt=>tr c.1 c.2.1 c.2.2.1 (pe3 c) (pe4 c) (pe5 c) (pf6 c) a nx dn rt)],bq 85 tt [] [.tmp 2] qm2 (fun x=>x.1.1)⟩
theorem qp6:CtxM Tryz.prog qp7:=gg fits az (mC wl m0)
theorem q1z:ax Tryz.prog qp7 0 (lc 0 Tryz.f34 151):=lp rfl qp6 .z s0 (fun c a=>(((),c.1,c.2.1,c.2.2.1,a,()),(((pe3 c),(pe4 c),(pe5 c),(pf6 c),()),()))) (fun y=>((),()))
abbrev qah:Mdl:=(aq (.cons (.d false Program.ty) .nil) [] [] 1 qm2 (B:=Bool) (fun b=>((b,()),(()))) (fun a=>qa a.1.1))
theorem qbk:MdlOK Tryz.prog 34 qah:=gf Tryz.func34 rfl qp6 (.two .z (.two (.d [0,1,3,0,8,24,7,127] [] []) (.two .z (.two (.two .z (.s 0)) .z)))) (sC q1z s0)
def l9:Shp:=⟨[j6k],[qau]⟩
abbrev yu:Ctx ((List ab)):=⟨8,tt,false,false,[],fu [],ge [],bq 8 tt [] [.tmp 2] l9 (fun x=>x.2.1)⟩
theorem yr:CtxM Tryz.prog yu:=gg fits az m0
abbrev yt:Mdl:=(aq (.cons (.nl false (.d false (.slice ab.ty))) .nil) [] [] 1 l9 (B:=(List ab)) (fun b=>(((),()),(b,()))) (fun a=>m5 a.1.1))
theorem v6:MdlOK Tryz.prog 75 yt:=gf Tryz.func75 rfl yr .z s0
def gp:Shp:=⟨[j6k],[qau]⟩
abbrev yz:Ctx ((List ab)):=⟨8,tt,false,false,[],fu [],ge [],bq 8 tt [] [.tmp 2] gp (fun x=>x.2.1)⟩
theorem yw:CtxM Tryz.prog yz:=gg fits az m0
abbrev yx:Mdl:=(aq (.cons (.nl true (.d false (.slice ab.ty))) .nil) [] [] 1 gp (B:=(List ab)) (fun b=>(((),()),(b,()))) (fun a=>di a.1.1))
theorem v7:MdlOK Tryz.prog 75 yx:=gf Tryz.func75 rfl yw .z s0
abbrev jf:Mdl:=(aq (.cons (.d false (.slice ab.ty)) .nil) [] [] 1 gp (fun(b:(List ab))=>(((),()),(b,()))) (fun(a:(((List ab)×Unit)×(Unit)))=>cu a.1.1))
theorem mi:MdlOK Tryz.prog 75 jf:=by
 refine q92 (jka _ _) v6 v7 (by kernel_rfl) (fun a b h=>⟨?_,h⟩);obtain⟨⟨xs,u1⟩,u2⟩:=a;cases xs with
 |nil=>exact h
 |cons x l=>
  have e:decide ((((x::l).length:Nat):Int)=0)=false:=decide_eq_false (by simp only[List.length_cons];omega);simp only[cu,di]at h;simp only[m5,e,cond_false];exact h
def qnf:Shp:=⟨[jdq],[]⟩
abbrev q6x:Ctx (ab):=⟨5,tt,false,false,[],fu [],ge [],bq 5 tt [] [.cell 2 49] qnf (fun x=>x.1.1)⟩
theorem q6w:CtxM Tryz.prog q6x:=gg fits az m0
abbrev s6:Mdl:=(aq (.cons (.d false qT0) .nil) [] [] 1 qnf (B:=ab) (fun b=>((b,()),(()))) (fun a=>c9 a.1.1))
theorem tz:MdlOK Tryz.prog 69 s6:=gf Tryz.func69 rfl q6w .z s0
def qng:Shp:=⟨[j6k],[qau]⟩
abbrev q6z:Ctx ((List ab)):=⟨7,tt,false,false,[],fu [(69,s6),(68,dk)],ge [],bq 7 tt [] [.tmp 2] qng (fun x=>x.2.1)⟩
theorem q6y:CtxM Tryz.prog q6z:=gg fits az (mC tz (mC ea m0))
abbrev s7:Mdl:=(aq (.cons (.d false qT0) .nil) [] [] 1 qng (B:=(List ab)) (fun b=>(((),()),(b,()))) (fun a=>ep a.1.1))
theorem t9:MdlOK Tryz.prog 41 s7:=gf Tryz.func41 rfl q6y .z s0
def qf1:Shp:=⟨[jdq],[]⟩
abbrev qwi:Ctx (ab):=⟨9,tt,false,false,[],fu [],ge [],bq 9 tt [] [.cell 2 49] qf1 (fun x=>x.1.1)⟩
theorem qwh:CtxM Tryz.prog qwi:=gg fits az m0
abbrev q8:Mdl:=(aq (.cons (.d false ab.ty) .nil) [] [] 1 qf1 (B:=ab) (fun b=>((b,()),(()))) (fun a=>lx a.1.1))
theorem uv:MdlOK Tryz.prog 77 q8:=gf Tryz.func77 rfl qwh .z s0
def qm4:Shp:=⟨[jo2,(1, .own 1)],[qxy,jrj,qkm,qot]⟩
abbrev sw:Ctx (((List ab)×Int×Int×(List Bool)×(List (List ab))×qL1)):=⟨127,tt,false,false,[],fu [(75,jf),(41,s7),(69,s6),(77,q8)],ge [ar _ 127 [] qzk (C:=(Int×Int×Int×(List (List ab))×Int×Int×Int×(List ab)×(List (List ab))×qL1×(List ab)×(List ab)×Int×Int×(List Bool)×(List (List ab))×qL1)) (S:=(Int×(List ab))) (fun x=>((x.1.2.1,x.1.2.2.1,(pe5 x.1),(pe7 x.1),(pe8 x.1),(pe9 x.1),(pe10 x.1),x.2.1.1,x.2.1.2.1,x.2.1.2.2.1,(pe3 x.2.1),x.2.2.1.2.1,(pe3 x.2.2.1),(pe4 x.2.2.1),(pe3 x),(pe5 x),(pe6 x)),((pe11 x.1),(pe4 x)))) qzj (CE:=(Int×Int×Int×(List (List ab))×Int×Int×(List ab)×(List (List ab))×qL1×(List ab)×(List ab)×Int×Int×(List Bool)×(List (List ab))×qL1)) (E:=(List ab)) (fun c e=>(((),c.1,c.2.1,(),(),c.2.2.1,(),(pe3 c),(pe4 c),(pe5 c),()),(((pe6 c),(pe7 c),(pe8 c),(pe9 c),()),((),(pe10 c),(),(pe11 c),(pe12 c),()),(pe13 c),e,(pe14 c),(pf15 c),()))) (fun c=>(c.1,c.2.1,c.2.2.1,(pe3 c),(pe4 c),(pe5 c),(pe7 c),(pe8 c),(pe9 c),(pe10 c),(pe11 c),(pe12 c),(pe13 c),(pe14 c),(pe15 c),(pf16 c))) (fun{R} c a nx dn rt=>tu c.1 c.2.1 c.2.2.1 (pe3 c) (pe4 c) (pe5 c) (pe6 c) (pe7 c) (pe8 c) (pe9 c) (pe10 c) (pe11 c) (pe12 c) (pe13 c) (pe14 c) (pe15 c) (pf16 c) a.1 a.2 nx dn rt),lg _ 127 [] qzo (A:=(Int×Int×Int×(List (List ab))×Int×Int×(List ab)×(List (List ab))×qL1×(List ab)×(List ab)×Int×Int×(List Bool)×(List ab)×(List (List ab))×qL1)) (fun x=>(x.1.2.1,x.1.2.2.1,(pe5 x.1),(pe7 x.1),(pe8 x.1),(pe9 x.1),x.2.1.1,x.2.1.2.1,x.2.1.2.2.1,(pe3 x.2.1),x.2.2.1.2.1,(pe3 x.2.2.1),(pe4 x.2.2.1),(pe3 x),(pe4 x),(pe5 x),(pe6 x))) qzn (CE:=(Int×Int×(List (List ab))×Int×Int×(List ab)×(List (List ab))×qL1×(List ab)×(List ab)×Int×Int×(List Bool))) (E:=((List (List ab))×qL1)) (fun c e=>(((),c.1,c.2.1,(),(),c.2.2.1,(pe3 c),(pe4 c),()),(((pe5 c),(pe6 c),(pe7 c),(pe8 c),()),((),(pe9 c),(),(pe10 c),(pe11 c),()),(pf12 c),e.1,e.2,()))) (fun c=>(c.1,c.2.1,(pe3 c),(pe4 c),(pe5 c),(pe6 c),(pe7 c),(pe8 c),(pe9 c),(pe10 c),(pe11 c),(pe12 c),(pe13 c))) (fun{R} c dn rt=>qbl c.1 c.2.1 c.2.2.1 (pe3 c) (pe4 c) (pe5 c) (pe6 c) (pe7 c) (pe8 c) (pe9 c) (pe10 c) (pe11 c) (pe12 c) (pe13 c) (pe14 c) (pe15 c) (pf16 c) dn rt),lg _ 127 [] qzq (A:=(Int×Int×Int×(List (List ab))×Int×Int×(List ab)×(List (List ab))×qL1×(List ab)×(List ab)×Int×Int×(List Bool)×(List ab)×(List (List ab))×qL1)) (fun x=>(x.1.2.1,x.1.2.2.1,(pe5 x.1),(pe7 x.1),(pe8 x.1),(pe9 x.1),x.2.1.1,x.2.1.2.1,x.2.1.2.2.1,(pe3 x.2.1),x.2.2.1.2.1,(pe3 x.2.2.1),(pe4 x.2.2.1),(pe3 x),(pe4 x),(pe5 x),(pe6 x))) qzp (CE:=(Int×Int×(List (List ab))×Int×Int×(List ab)×(List (List ab))×qL1×(List ab)×(List ab)×Int×Int)) (E:=((List Bool)×(List (List ab))×qL1)) (fun c e=>(((),c.1,c.2.1,(),(),c.2.2.1,(pe3 c),(pe4 c),()),(((pe5 c),(pe6 c),(pe7 c),(pe8 c),()),((),(pe9 c),(),(pe10 c),(pf11 c),()),e.1,e.2.1,e.2.2,()))) (fun c=>(c.1,c.2.1,(pe3 c),(pe4 c),(pe5 c),(pe6 c),(pe7 c),(pe8 c),(pe9 c),(pe10 c),(pe11 c),(pe12 c))) (fun{R} c dn rt=>qbm c.1 c.2.1 c.2.2.1 (pe3 c) (pe4 c) (pe5 c) (pe6 c) (pe7 c) (pe8 c) (pe9 c) (pe10 c) (pe11 c) (pe12 c) (pe13 c) (pe14 c) (pe15 c) (pf16 c) dn rt),ar _ 127 [] qzm (C:=(Int×Int×(List (List ab))×Int×(List ab)×(List (List ab))×qL1×(List ab)×(List ab)×Int×Int)) (S:=(Int×(List Bool)×(List (List ab))×qL1)) (fun x=>((x.1.2.1,x.1.2.2.1,(pe5 x.1),(pe6 x.1),x.2.1.1,x.2.1.2.1,x.2.1.2.2.1,(pe3 x.2.1),x.2.2.1.2.1,(pe3 x.2.2.1),(pe4 x.2.2.1)),((pe7 x.1),(pe3 x),(pe4 x),(pe5 x)))) qzl (CE:=((List ab)×Int×Int)) (E:=((List Bool)×(List (List ab))×qL1)) (fun c e=>(((),(),()),(((),c.1,(),c.2.1,c.2.2,()),e.1,e.2.1,e.2.2,()))) (fun c=>((pe8 c),(pe9 c),(pf10 c))) (fun{R} c a nx dn rt=>tv c.1 c.2.1 c.2.2.1 (pe3 c) (pe4 c) (pe5 c) (pe6 c) (pe7 c) (pe8 c) (pe9 c) (pf10 c) a.1 a.2.1 a.2.2.1 a.2.2.2 nx dn rt)],bq 127 tt [] [.tmp 2, .tmp 3] qm4 (fun x=>(x.2.1.2.1,(pe3 x.2.1),(pe4 x.2.1),x.2.2.1,(pe3 x),(pe4 x)))⟩
theorem su:CtxM Tryz.prog sw:=gg fits az (mC mi (mC t9 (mC tz (mC uv m0))))
theorem q10:ax Tryz.prog sw 0 (lc 3 Tryz.f66 10154799):=lp rfl su .z s0 (fun c a=>(((),c.1,c.2.1,(),(),c.2.2.1,(),(pe3 c),(pe4 c),(pe5 c),(pe6 c),a.1,()),(((pe7 c),(pe8 c),(pe9 c),(pe10 c),()),((),(pe11 c),(),(pe12 c),(pe13 c),()),(pe14 c),a.2,(pe15 c),(pf16 c),()))) (fun y=>((y.1.2.1,y.1.2.2.1,(pe5 y.1),(pe7 y.1),(pe8 y.1),(pe9 y.1),y.2.1.1,y.2.1.2.1,y.2.1.2.2.1,(pe3 y.2.1),y.2.2.1.2.1,(pe3 y.2.2.1),(pe4 y.2.2.1),(pe3 y),(pe5 y),(pe6 y)),(pe4 y)))
theorem q11:ax Tryz.prog sw 1 (jc Tryz.f66 258863):=jn rfl su (.two .z (.d [0,0,0,4,12,28,0,64,252,0,512,1536,3584,0,0,24576,0,122880,253952,524284,1048573,2097149,4194301,8388607,16777215,33554431] [8,19,22,25] [])) s0 (fun c=>(((),c.1,c.2.1,(),(),c.2.2.1,(),(pe3 c),(pe4 c),(pe5 c),()),(((pe6 c),(pe7 c),(pe8 c),(pe9 c),()),((),(pe10 c),(),(pe11 c),(pe12 c),()),(pe13 c),(pe14 c),(pe15 c),(pf16 c),()))) (fun y=>((y.1.2.1,y.1.2.2.1,(pe5 y.1),(pe6 y.1),(pe7 y.1),y.2.1.1,y.2.1.2.1,y.2.1.2.2.1,(pe3 y.2.1),y.2.2.1.2.1,(pe3 y.2.2.1),(pe4 y.2.2.1),(pe3 y)),((pe4 y),(pe5 y))))
theorem q12:ax Tryz.prog sw 2 (jc Tryz.f66 62255):=jn rfl su (.two .z (.two (.two .z (.two (.two .z (.two .z (.s 0))) .z)) (.s 1))) (sC q10 (sC q11 s0)) (fun c=>(((),c.1,c.2.1,(),(),c.2.2.1,(),(pe3 c),(pe4 c),(pe5 c),()),(((pe6 c),(pe7 c),(pe8 c),(pe9 c),()),((),(pe10 c),(),(pe11 c),(pe12 c),()),(pe13 c),(pe14 c),(pe15 c),(pf16 c),()))) (fun y=>((y.1.2.1,y.1.2.2.1,(pe5 y.1),(pe6 y.1),(pe7 y.1),y.2.1.1,y.2.1.2.1,y.2.1.2.2.1,(pe3 y.2.1),y.2.2.1.2.1,(pe3 y.2.2.1),(pe4 y.2.2.1)),((pe3 y),(pe4 y),(pe5 y))))
theorem q13:ax Tryz.prog sw 3 (lc 0 Tryz.f66 303):=lp rfl su (.two .z (.two .z (.two (.one (.two .z (.two .z (.two .z (.s 2))))) .z))) (sC q12 s0) (fun c a=>(((),c.1,c.2.1,(),(),c.2.2.1,(pe3 c),a.1,()),(((pe4 c),(pe5 c),(pe6 c),(pe7 c),()),((),(pe8 c),(),(pe9 c),(pf10 c),()),a.2.1,a.2.2.1,a.2.2.2,()))) (fun y=>((y.2.1.2.1,(pe3 y.2.1),(pe4 y.2.1)),(y.2.2.1,(pe3 y),(pe4 y))))
abbrev qp8:Mdl:=(aq (.cons (.d false Program.ty) .nil) [] [] 2 qm4 (B:=((List ab)×Int×Int×(List Bool)×(List (List ab))×qL1)) (fun b=>(((),(),()),(((),b.1,(),b.2.1,b.2.2.1,()),(pe3 b),(pe4 b),(pf5 b),()))) (fun a=>qb9 a.1.1))
theorem qzr:MdlOK Tryz.prog 66 qp8:=gf Tryz.func66 rfl su (.two .z (.two (.d [0,1,3,0,8,24,7,127] [] []) (.two .z (.two .z (.two (.two .z (.s 3)) .z))))) (sC q13 s0)
def um:Shp:=⟨[jdq],[qco,qkm,qot]⟩
abbrev qic:Ctx ((ab×(List ab)×Int×Int×(List (List ab))×qL1)):=⟨17,tt,false,false,[true,true,true],fu [],ge [],bq 17 tt [true,true,true] [.cell 6 49] um (fun x=>(x.1.1,x.2.1.2.1,(pe3 x.2.1),(pe4 x.2.1),x.2.2.1,(pe3 x)))⟩
theorem qib:CtxM Tryz.prog qic:=gg fits az m0
abbrev gh:Mdl:=(aq (.cons (.ptr 0) (.cons (.d false ab.ty) (.cons (.d false qT0) .nil))) [.cs 133 5 1 (.cons (.own 1) (.cons (.d true (.slice ab.ty)) (.cons (.own 2) (.cons (.d false qT0) (.cons (.d false qT0) .nil))))),qkm,qot] [true,true,true] 1 um (B:=(ab×(List ab)×Int×Int×(List (List ab))×qL1)) (fun b=>((b.1,()),(((),b.2.1,(),b.2.2.1,(pe3 b),()),(pe4 b),(pf5 b),()))) (fun a=>bp a.1.2.1 a.1.2.2.1 a.2.1.2.1 (pe3 a.2.1) (pe4 a.2.1) a.2.2.1 (pe3 a)))
theorem ip:MdlOK Tryz.prog 106 gh:=gf Tryz.func106 rfl qib .z s0
def ul:Shp:=⟨[(0, .nl false (.own 3))],[qco,qkm,qot,qau]⟩
abbrev vq:Ctx (((List ab)×Int×Int×(List (List ab))×qL1×(List ab))):=⟨52,tt,false,false,[true,true,true],fu [(82,qey),(106,gh),(107,qi2)],ge [ar _ 52 [true,true,true] qf8 (C:=((List ab)×(List ab)×Int×Int×Int)) (S:=(Int×(List ab)×Int×Int×(List (List ab))×qL1×(List ab))) (fun x=>((x.1.2.1,x.1.2.2.1,(pe5 x.1),(pe4 x).1,(pe4 x).2.1),((pe6 x.1),x.2.1.2.1,(pe3 x.2.1),(pe4 x.2.1),x.2.2.1,(pe3 x),(pe5 x)))) qf7 (CE:=Unit) (E:=((List ab)×Int×Int×(List (List ab))×qL1×(List ab))) (fun c e=>(((),()),(((),e.1,(),e.2.1,e.2.2.1,()),(pe3 e),(pe4 e),(pf5 e),()))) (fun c=>()) (fun{R} c a nx dn rt=>ff c.1 c.2.1 c.2.2.1 (pe3 c) (pf4 c) a.1 a.2.1 a.2.2.1 (pe3 a) (pe4 a) (pe5 a) (pf6 a) nx dn rt)],bq 52 tt [true,true,true] [.tmp 8] ul (fun x=>(x.2.1.2.1,(pe3 x.2.1),(pe4 x.2.1),x.2.2.1,(pe3 x),(pe4 x)))⟩
theorem vp:CtxM Tryz.prog vq:=gg fits az (mC qcf (mC ip (mC qg1 m0)))
theorem qgk:ax Tryz.prog vq 0 (lc 0 Tryz.f102 75):=lp rfl vp (.two .z (.two .z (.two (.one (.two .z (.two (.d [0,0,0,0,12,28,62,126,126,511,0,2047] [9,11] []) (.two .z (.two (.d [0,0,0,0,12,28,0,124,252,252,1022,2046,4095,8191] [10,11,12,13] []) .z))))) .z))) s0 (fun c a=>(((),c.1,c.2.1,(),(),c.2.2.1,a.1,()),(((),a.2.1,(),a.2.2.1,(pe3 a),()),(pe4 a),(pe5 a),((pe3 c),(pf4 c),()),(pf6 a),()))) (fun y=>((),(y.2.1.2.1,(pe3 y.2.1),(pe4 y.2.1),y.2.2.1,(pe3 y),(pe4 y))))
abbrev ng:Mdl:=(aq (.cons (.ptr 0) (.cons (.d false (.slice ab.ty)) (.cons (.d false (.slice ab.ty)) (.cons (.d false ab.ty) .nil)))) [.cs 133 5 1 (.cons (.own 1) (.cons (.d true (.slice ab.ty)) (.cons (.own 2) (.cons (.d false qT0) (.cons (.d false qT0) .nil))))),qkm,qot] [true,true,true] 1 ul (B:=((List ab)×Int×Int×(List (List ab))×qL1×(List ab))) (fun b=>(((),()),(((),b.1,(),b.2.1,b.2.2.1,()),(pe3 b),(pe4 b),(pf5 b),()))) (fun a=>fa a.1.2.1 a.1.2.2.1 (pe3 a.1) a.2.1.2.1 (pe3 a.2.1) (pe4 a.2.1) a.2.2.1 (pe3 a)))
theorem sy:MdlOK Tryz.prog 102 ng:=gf Tryz.func102 rfl vp (.two .z (.two .z (.two (.two .z (.s 0)) .z))) (sC qgk s0)
def vz:Shp:=⟨[],[qxy,j90,qkm,qot]⟩
abbrev yg:Ctx (((List ab)×Int×Int×qL1×(List (List ab))×qL1)):=⟨58,tt,false,false,[true,false,true,true],fu [(102,ng)],ge [ar _ 58 [true,false,true,true] qgm (C:=Int) (S:=(Int×(List ab)×Int×Int×qL1×(List (List ab))×qL1)) (fun x=>(x.1.2.2.1,((pe3 x.1),x.2.1.2.1,(pe3 x.2.1),(pe4 x.2.1),x.2.2.1,(pe3 x),(pe4 x)))) qgl (CE:=Unit) (E:=((List ab)×Int×Int×qL1×(List (List ab))×qL1)) (fun c e=>((()),(((),e.1,(),e.2.1,e.2.2.1,()),(pe3 e),(pe4 e),(pf5 e),()))) (fun c=>()) (fun{R} c a nx dn rt=>jg c a.1 a.2.1 a.2.2.1 (pe3 a) (pe4 a) (pe5 a) (pf6 a) nx dn rt)],bq 58 tt [true,false,true,true] [] vz (fun x=>(x.2.1.2.1,(pe3 x.2.1),(pe4 x.2.1),x.2.2.1,(pe3 x),(pe4 x)))⟩
theorem ye:CtxM Tryz.prog yg:=gg fits az (mC sy m0)
theorem qih:ax Tryz.prog yg 0 (lc 0 Tryz.f67 19):=lp rfl ye (.two .z (.two .z (.two (.one (.two .z (.two .z (.two .z (.two (.d [0,0,0,4,12,28,0,64,192,448,0,1984,4032,0,8192,24576,57344,0,253952,516096,1048574,2097151,4194303,8388607] [20,23] []) .z))))) .z))) s0 (fun c a=>(((),(),c,a.1,()),(((),a.2.1,(),a.2.2.1,(pe3 a),()),(pe4 a),(pe5 a),(pf6 a),()))) (fun y=>((),(y.2.1.2.1,(pe3 y.2.1),(pe4 y.2.1),y.2.2.1,(pe3 y),(pe4 y))))
abbrev yf:Mdl:=(aq (.cons (.ptr 0) (.cons (.own 1) .nil)) [.cs 133 5 1 (.cons (.own 2) (.cons (.d true (.slice ab.ty)) (.cons (.own 3) (.cons (.d false qT0) (.cons (.d false qT0) .nil))))),qau,qkm,qot] [true,false,true,true] 0 vz (B:=((List ab)×Int×Int×qL1×(List (List ab))×qL1)) (fun b=>((()),(((),b.1,(),b.2.1,b.2.2.1,()),(pe3 b),(pe4 b),(pf5 b),()))) (fun a=>fm a.2.1.2.1 (pe3 a.2.1) (pe4 a.2.1) a.2.2.1 (pe3 a) (pe4 a)))
theorem qgn:MdlOK Tryz.prog 67 yf:=gf Tryz.func67 rfl ye (.two .z (.two .z (.s 0))) (sC qih s0)
def yh:Shp:=⟨[qxo],[]⟩
abbrev qlz:Ctx (Bool):=⟨6,tt,false,false,[],fu [],ge [],bq 6 tt [] [.tmp 2] yh (fun x=>x.1.1)⟩
theorem qly:CtxM Tryz.prog qlz:=gg fits az m0
abbrev qam:Mdl:=(aq (.cons (.d false ab.ty) .nil) [] [] 1 yh (B:=Bool) (fun b=>((b,()),(()))) (fun a=>qh a.1.1))
theorem qii:MdlOK Tryz.prog 104 qam:=gf Tryz.func104 rfl qly .z s0
def jp:Shp:=⟨[jds],[]⟩
abbrev jx:Ctx (Int):=⟨19,tt,false,false,[],fu [(104,qam)],ge [ar _ 19 [] pp (C:=((List ab)×Int)) (S:=Int) (fun x=>((x.1.1,x.1.2.2.1),(pe3 x.1))) po (CE:=Unit) (E:=Unit) (fun c e=>((()),(()))) (fun c=>()) (fun{R} c a nx dn rt=>bz c.1 c.2 a nx dn rt)],bq 19 tt [] [.tmp 4] jp (fun x=>x.1.1)⟩
theorem jv:CtxM Tryz.prog jx:=gg fits az (mC qii m0)
theorem qk:ax Tryz.prog jx 0 (lc 0 Tryz.f72 37):=lp rfl jv .z s0 (fun c a=>((c.1,(()),c.2,a,()),(()))) (fun y=>((),()))
abbrev jw:Mdl:=(aq (.cons (.d false (.slice ab.ty)) (.cons (.fn 104 .nil) .nil)) [] [] 1 jp (B:=Int) (fun b=>((b,()),(()))) (fun a=>dj a.1.1))
theorem pq:MdlOK Tryz.prog 72 jw:=gf Tryz.func72 rfl jv (.two .z (.two (.two .z (.s 0)) .z)) (sC qk s0)
def q3p:Shp:=⟨[jds,q2j],[]⟩
abbrev jlc:Ctx ((Int×Int)):=⟨31,tt,false,false,[],fu [(43,rx)],ge [],bq 31 tt [] [.tmp 4, .tmp 5] q3p (fun x=>(x.1.1,x.1.2.1))⟩
theorem jlb:CtxM Tryz.prog jlc:=gg fits az (mC p7 m0)
abbrev qi0:Mdl:=(aq (.cons (.d false ab.ty) (.cons (.d false ab.ty) .nil)) [] [] 2 q3p (B:=(Int×Int)) (fun b=>((b.1,b.2,()),(()))) (fun a=>qe4 a.1.1 a.1.2.1))
theorem qg0:MdlOK Tryz.prog 16 qi0:=gf Tryz.func16 rfl jlb (.two .z (.two .z (.two (.d [0,1,0,4,15,0,32,0,128,480,31,2047] [] []) .z))) s0
def uj:Shp:=⟨[jds],[qco,qkm,qot]⟩
abbrev vo:Ctx ((Int×(List ab)×Int×Int×(List (List ab))×qL1)):=⟨82,tt,false,false,[true,true,true],fu [(95,qq0),(106,gh),(16,qi0)],ge [ar _ 82 [true,true,true] qf5 (C:=(Int×Int)) (S:=(Int×Int×(List ab)×Int×Int×(List (List ab))×qL1×Int×Int)) (fun x=>((x.1.2.1,(pe5 x.1)),(x.1.2.2.1,(pe6 x.1),x.2.1.2.1,(pe3 x.2.1),(pe4 x.2.1),x.2.2.1,(pe3 x),(pe4 x).1,(pe4 x).2.1))) qf4 (CE:=Unit) (E:=(Int×(List ab)×Int×Int×(List (List ab))×qL1)) (fun c e=>((e.1,()),(((),e.2.1,(),e.2.2.1,(pe3 e),()),(pe4 e),(pf5 e),()))) (fun c=>()) (fun{R} c a nx dn rt=>fe c.1 c.2 a.1 a.2.1 a.2.2.1 (pe3 a) (pe4 a) (pe5 a) (pe6 a) (pe7 a) (pf8 a) nx dn rt)],bq 82 tt [true,true,true] [.tmp 4] uj (fun x=>(x.1.1,x.2.1.2.1,(pe3 x.2.1),(pe4 x.2.1),x.2.2.1,(pe3 x)))⟩
theorem vm:CtxM Tryz.prog vo:=gg fits az (mC qon (mC ip (mC qg0 m0)))
theorem qgj:ax Tryz.prog vo 0 (lc 0 Tryz.f105 151):=lp rfl vm (.two .z (.two .z (.two (.one (.two .z (.two .z (.two (.d [0,0,0,4,12,30,62,0,0,384,896,2046,4094,4094,16383,0,65535] [14,16] []) (.two .z (.two .z (.two .z (.two (.d [0,1,3,7,15,31,63,127,255,511,63,2047,4095,63,8255,24639,57407,63,254015,516159,1048575,2097151,4194303] [] []) (.two (.d [0,0,1,7] [3] []) .z))))))))) .z))) s0 (fun c a=>(((),c.1,a.1,(),(),c.2,a.2.1,()),(((),a.2.2.1,(),(pe3 a),(pe4 a),()),(pe5 a),(pe6 a),((pe7 a),(pf8 a),()),()))) (fun y=>((),(y.1.1,y.2.1.2.1,(pe3 y.2.1),(pe4 y.2.1),y.2.2.1,(pe3 y))))
abbrev vn:Mdl:=(aq (.cons (.ptr 0) (.cons (.d false qT0) .nil)) [.cs 133 5 1 (.cons (.own 1) (.cons (.d true (.slice ab.ty)) (.cons (.own 2) (.cons (.d false qT0) (.cons (.d false qT0) .nil))))),qkm,qot] [true,true,true] 1 uj (B:=(Int×(List ab)×Int×Int×(List (List ab))×qL1)) (fun b=>((b.1,()),(((),b.2.1,(),b.2.2.1,(pe3 b),()),(pe4 b),(pf5 b),()))) (fun a=>k9 a.1.2.1 a.2.1.2.1 (pe3 a.2.1) (pe4 a.2.1) a.2.2.1 (pe3 a)))
theorem qf6:MdlOK Tryz.prog 105 vn:=gf Tryz.func105 rfl vm (.two .z (.two .z (.two .z (.two (.two .z (.s 0)) .z)))) (sC qgj s0)
def yd:Shp:=⟨[],[qco,qkm,qot]⟩
abbrev ov:Ctx (((List ab)×Int×Int×(List (List ab))×qL1)):=⟨146,tt,false,false,[true,true,true],fu [(95,qq0),(106,gh),(102,ng)],ge [ar _ 146 [true,true,true] qie (C:=(Int×Int×(List ab)×Int×Int×Int)) (S:=(Int×(List ab)×Int×Int×(List (List ab))×qL1×(List ab))) (fun x=>((x.1.2.1,x.1.2.2.1,(pe5 x.1),(pe6 x.1),(pe4 x).1,(pe4 x).2.1),((pe7 x.1),x.2.1.2.1,(pe3 x.2.1),(pe4 x.2.1),x.2.2.1,(pe3 x),(pe5 x)))) qid (CE:=(Int×Int)) (E:=((List ab)×Int×Int×(List (List ab))×qL1×(List ab))) (fun c e=>(((),c.1,c.2,(),()),(((),e.1,(),e.2.1,e.2.2.1,()),(pe3 e),(pe4 e),(pf5 e),()))) (fun c=>(c.1,c.2.1)) (fun{R} c a nx dn rt=>gi c.1 c.2.1 c.2.2.1 (pe3 c) (pe4 c) (pf5 c) a.1 a.2.1 a.2.2.1 (pe3 a) (pe4 a) (pe5 a) (pf6 a) nx dn rt),ar _ 146 [true,true,true] qig (C:=(Int×Int×(List ab)×Int)) (S:=(Int×(List ab)×Int×Int×(List (List ab))×qL1)) (fun x=>((x.1.2.1,x.1.2.2.1,(pe3 x.1),(pe4 x.1)),((pe5 x.1),x.2.1.2.1,(pe3 x.2.1),(pe4 x.2.1),x.2.2.1,(pe3 x)))) qif (CE:=(Int×(List ab))) (E:=((List ab)×Int×Int×(List (List ab))×qL1)) (fun c e=>(((),c.1,c.2,()),(((),e.1,(),e.2.1,e.2.2.1,()),(pe3 e),(pf4 e),()))) (fun c=>(c.2.1,c.2.2.1)) (fun{R} c a nx dn rt=>gk c.1 c.2.1 c.2.2.1 c.2.2.2 a.1 a.2.1 a.2.2.1 (pe3 a) (pe4 a) (pf5 a) nx dn rt)],bq 146 tt [true,true,true] [] yd (fun x=>(x.2.1.2.1,(pe3 x.2.1),(pe4 x.2.1),x.2.2.1,(pe3 x)))⟩
theorem ot:CtxM Tryz.prog ov:=gg fits az (mC qon (mC ip (mC sy m0)))
theorem qj4:ax Tryz.prog ov 1 (lc 2 Tryz.f74 303):=lp rfl ot (.two .z (.two .z (.two (.one (.two .z (.two .z (.two (.d [0,1,3,7,0,0,0,64,192,448,0,1984,4032,0,0,16384,49152,114688,0,507904,1032192,0,4177920,8372224,16777184,33554431,67108863] [24,26] []) .z)))) .z))) s0 (fun c a=>(((),c.1,c.2.1,c.2.2.1,c.2.2.2,a.1,()),(((),a.2.1,(),a.2.2.1,(pe3 a),()),(pe4 a),(pf5 a),()))) (fun y=>((y.1.2.1,y.1.2.2.1),(y.2.1.2.1,(pe3 y.2.1),(pe4 y.2.1),y.2.2.1,(pe3 y))))
theorem qj3:ax Tryz.prog ov 0 (lc 0 Tryz.f74 75):=lp rfl ot .z s0 (fun c a=>(((),c.1,c.2.1,(),(),c.2.2.1,(pe3 c),a.1,()),(((),a.2.1,(),a.2.2.1,(pe3 a),()),(pe4 a),(pe5 a),((pe4 c),(pf5 c),()),(pf6 a),()))) (fun y=>((y.1.2.1,y.1.2.2.1),(y.2.1.2.1,(pe3 y.2.1),(pe4 y.2.1),y.2.2.1,(pe3 y),(pe4 y))))
abbrev ou:Mdl:=(aq (.cons (.ptr 0) (.cons (.d false qT0) (.cons (.d false qT0) .nil))) [.cs 133 5 1 (.cons (.own 1) (.cons (.d true (.slice ab.ty)) (.cons (.own 2) (.cons (.d false qT0) (.cons (.d false qT0) .nil))))),qkm,qot] [true,true,true] 0 yd (B:=((List ab)×Int×Int×(List (List ab))×qL1)) (fun b=>((()),(((),b.1,(),b.2.1,b.2.2.1,()),(pe3 b),(pf4 b),()))) (fun a=>jk a.1.2.1 a.1.2.2.1 a.2.1.2.1 (pe3 a.2.1) (pe4 a.2.1) a.2.2.1 (pe3 a)))
theorem vx:MdlOK Tryz.prog 74 ou:=gf Tryz.func74 rfl ot (.two .z (.two .z (.two (.two .z (.s 0)) (.two (.d [0,1,3,7,0,0,32,96,224,0,0,0,1535,5631,16383,32767] [13,15] []) (.two (.two .z (.s 1)) (.two .z (.two (.d [0,0,0,4,12,28,0,0,128,384,896,0,3968,8064,16382,32767,65535,131071] [14,17] []) .z))))))) (sC qj3 (sC qj4 s0))
def qa5:Shp:=⟨[jds],[qco,qkm,qot]⟩
abbrev qc8:Ctx ((Int×(List ab)×Int×Int×(List (List ab))×qL1)):=⟨36,tt,false,false,[true,true,true],fu [(72,jw),(105,vn),(74,ou)],ge [ar _ 36 [true,true,true] qlx (C:=Int) (S:=((List ab)×Int×Int×(List (List ab))×qL1)) (fun x=>(x.1.2.1,(x.2.1.2.1,(pe3 x.2.1),(pe4 x.2.1),x.2.2.1,(pe3 x)))) qlw (CE:=Unit) (E:=((List ab)×Int×Int×(List (List ab))×qL1)) (fun c e=>((()),(((),e.1,(),e.2.1,e.2.2.1,()),(pe3 e),(pf4 e),()))) (fun c=>()) (fun{R} c a nx dn rt=>dh c a.1 a.2.1 a.2.2.1 (pe3 a) (pf4 a) nx dn rt)],bq 36 tt [true,true,true] [.tmp 4] qa5 (fun x=>(x.1.1,x.2.1.2.1,(pe3 x.2.1),(pe4 x.2.1),x.2.2.1,(pe3 x)))⟩
theorem qc6:CtxM Tryz.prog qc8:=gg fits az (mC pq (mC qf6 (mC vx m0)))
theorem qn9:ax Tryz.prog qc8 0 (lc 0 Tryz.f70 17):=lp rfl qc6 .z s0 (fun c a=>(((),c,()),(((),a.1,(),a.2.1,a.2.2.1,()),(pe3 a),(pf4 a),()))) (fun y=>((),(y.2.1.2.1,(pe3 y.2.1),(pe4 y.2.1),y.2.2.1,(pe3 y))))
abbrev qc7:Mdl:=(aq (.cons (.ptr 0) (.cons (.d false qT0) .nil)) [.cs 133 5 1 (.cons (.own 1) (.cons (.d true (.slice ab.ty)) (.cons (.own 2) (.cons (.d false qT0) (.cons (.d false qT0) .nil))))),qkm,qot] [true,true,true] 1 qa5 (B:=(Int×(List ab)×Int×Int×(List (List ab))×qL1)) (fun b=>((b.1,()),(((),b.2.1,(),b.2.2.1,(pe3 b),()),(pe4 b),(pf5 b),()))) (fun a=>f9 a.1.2.1 a.2.1.2.1 (pe3 a.2.1) (pe4 a.2.1) a.2.2.1 (pe3 a)))
theorem ql0:MdlOK Tryz.prog 70 qc7:=gf Tryz.func70 rfl qc6 (.two .z (.two (.s 0) .z)) (sC qn9 s0)
def oc:Shp:=⟨[(0, .nl false (.own 3))],[qco,qkm,qot,qau]⟩
abbrev pc:Ctx (((List ab)×Int×Int×(List (List ab))×qL1×(List ab))):=⟨46,tt,false,false,[true,true,true],fu [(69,s6),(107,qi2),(106,gh),(77,q8)],ge [ar _ 46 [true,true,true] qbp (C:=(Int×(List Bool)×Int)) (S:=(Int×(List ab)×Int×Int×(List (List ab))×qL1×(List ab))) (fun x=>((x.1.2.1,(pe3 x.1),(pe4 x.1)),((pe5 x.1),x.2.1.2.1,(pe3 x.2.1),(pe4 x.2.1),x.2.2.1,(pe3 x),(pe4 x)))) qbo (CE:=Unit) (E:=((List ab)×Int×Int×(List (List ab))×qL1×(List ab))) (fun c e=>(((),()),(((),e.1,(),e.2.1,e.2.2.1,()),(pe3 e),(pe4 e),(pf5 e),()))) (fun c=>()) (fun{R} c a nx dn rt=>fk c.1 c.2.1 c.2.2 a.1 a.2.1 a.2.2.1 (pe3 a) (pe4 a) (pe5 a) (pf6 a) nx dn rt)],bq 46 tt [true,true,true] [.tmp 6] oc (fun x=>(x.2.1.2.1,(pe3 x.2.1),(pe4 x.2.1),x.2.2.1,(pe3 x),(pe4 x)))⟩
theorem o9:CtxM Tryz.prog pc:=gg fits az (mC tz (mC qg1 (mC ip (mC uv m0))))
theorem qc5:ax Tryz.prog pc 0 (lc 0 Tryz.f71 75):=lp rfl o9 (.two .z (.two .z (.two (.one (.two .z (.two (.d [0,0,2,0,8,24,56,0,128,384,896,0,3968,8184,16376,32766,65534,65534,262143,0,1048575] [18,20] []) .z))) .z))) s0 (fun c a=>(((),c.1,(),c.2.1,c.2.2,a.1,()),(((),a.2.1,(),a.2.2.1,(pe3 a),()),(pe4 a),(pe5 a),(pf6 a),()))) (fun y=>((),(y.2.1.2.1,(pe3 y.2.1),(pe4 y.2.1),y.2.2.1,(pe3 y),(pe4 y))))
abbrev pb:Mdl:=(aq (.cons (.ptr 0) (.cons (.d false (.slice .bool)) (.cons (.d false qT0) .nil))) [.cs 133 5 1 (.cons (.own 1) (.cons (.d true (.slice ab.ty)) (.cons (.own 2) (.cons (.d false qT0) (.cons (.d false qT0) .nil))))),qkm,qot] [true,true,true] 1 oc (B:=((List ab)×Int×Int×(List (List ab))×qL1×(List ab))) (fun b=>(((),()),(((),b.1,(),b.2.1,b.2.2.1,()),(pe3 b),(pe4 b),(pf5 b),()))) (fun a=>ew a.1.2.1 a.1.2.2.1 a.2.1.2.1 (pe3 a.2.1) (pe4 a.2.1) a.2.2.1 (pe3 a)))
theorem qbq:MdlOK Tryz.prog 71 pb:=gf Tryz.func71 rfl o9 (.two .z (.two .z (.two (.two .z (.s 0)) .z))) (sC qc5 s0)
def qf3:Shp:=⟨[qxo],[]⟩
abbrev qwu:Ctx (Bool):=⟨6,tt,false,false,[],fu [],ge [],bq 6 tt [] [.tmp 2] qf3 (fun x=>x.1.1)⟩
theorem qwt:CtxM Tryz.prog qwu:=gg fits az m0
abbrev qhj:Mdl:=(aq (.cons (.d false ab.ty) .nil) [] [] 1 qf3 (B:=Bool) (fun b=>((b,()),(()))) (fun a=>qbn a.1.1))
theorem qr1:MdlOK Tryz.prog 73 qhj:=gf Tryz.func73 rfl qwt .z s0
def j3:Shp:=⟨[jds],[]⟩
abbrev ko:Ctx (Int):=⟨19,tt,false,false,[],fu [(73,qhj)],ge [ar _ 19 [] qn (C:=((List ab)×Int)) (S:=Int) (fun x=>((x.1.1,x.1.2.2.1),(pe3 x.1))) qm (CE:=Unit) (E:=Unit) (fun c e=>((()),(()))) (fun c=>()) (fun{R} c a nx dn rt=>ca c.1 c.2 a nx dn rt)],bq 19 tt [] [.tmp 4] j3 (fun x=>x.1.1)⟩
theorem kl:CtxM Tryz.prog ko:=gg fits az (mC qr1 m0)
theorem rh:ax Tryz.prog ko 0 (lc 0 Tryz.f72 37):=lp rfl kl .z s0 (fun c a=>((c.1,(()),c.2,a,()),(()))) (fun y=>((),()))
abbrev km:Mdl:=(aq (.cons (.d false (.slice ab.ty)) (.cons (.fn 73 .nil) .nil)) [] [] 1 j3 (B:=Int) (fun b=>((b,()),(()))) (fun a=>du a.1.1))
theorem qo:MdlOK Tryz.prog 72 km:=gf Tryz.func72 rfl kl (.two .z (.two (.two .z (.s 0)) .z)) (sC rh s0)
def v5:Shp:=⟨[j6k],[qau]⟩
abbrev yk:Ctx ((List ab)):=⟨42,tt,false,false,[],fu [(41,s7)],ge [ar _ 42 [] qgp (C:=(ii×Int×qL1×Int)) (S:=(Int×(List ab))) (fun x=>((x.1.1,x.1.2.1,(pe3 x.1),(pe4 x.1)),((pe5 x.1),x.2.1))) qgo (CE:=Unit) (E:=(List ab)) (fun c e=>(((),()),(e,()))) (fun c=>()) (fun{R} c a nx dn rt=>jh c.1 c.2.1 c.2.2.1 c.2.2.2 a.1 a.2 nx dn rt)],bq 42 tt [] [.tmp 4] v5 (fun x=>x.2.1)⟩
theorem yi:CtxM Tryz.prog yk:=gg fits az (mC t9 m0)
theorem qij:ax Tryz.prog yk 0 (lc 0 Tryz.f76 75):=lp rfl yi .z s0 (fun c a=>((c.1,c.2.1,(),c.2.2.1,c.2.2.2,a.1,()),(a.2,()))) (fun y=>((),y.2.1))
abbrev yj:Mdl:=(aq (.cons (.rp false ii.ty) (.cons (.d false qT0) .nil)) [] [] 1 v5 (B:=(List ab)) (fun b=>(((),()),(b,()))) (fun a=>lj a.1.1 a.1.2.1))
theorem qgq:MdlOK Tryz.prog 76 yj:=gf Tryz.func76 rfl yi (.two .z (.two .z (.two (.two .z (.s 0)) .z))) (sC qij s0)
def q3s:Shp:=⟨[jdq,q2j],[]⟩
abbrev q9i:Ctx ((ab×Int)):=⟨71,tt,false,false,[],fu [(43,rx),(82,qey),(83,qiz)],ge [ar _ 71 [] jen (C:=((List ab)×(List ab)×Int×Int×Int)) (S:=(Int×Int×Int)) (fun x=>((x.1.1,x.1.2.1,(pe4 x.1),x.2.1.1,x.2.1.2.1),((pe5 x.1),x.2.2.1.1,x.2.2.1.2.1))) jem (CE:=(Int×Int)) (E:=(Int×Int)) (fun c e=>(((),(),()),((c.1,c.2,()),(e.1,e.2,()),()))) (fun c=>((pe3 c),(pf4 c))) (fun{R} c a nx dn rt=>qcd c.1 c.2.1 c.2.2.1 (pe3 c) (pf4 c) a.1 a.2.1 a.2.2 nx dn rt)],bq 71 tt [] [.cell 4 49, .tmp 5] q3s (fun x=>(x.1.1,x.1.2.1))⟩
theorem q9h:CtxM Tryz.prog q9i:=gg fits az (mC p7 (mC qcf (mC qgz m0)))
theorem jg4:ax Tryz.prog q9i 0 (lc 1 Tryz.f40 151):=lp rfl q9h (.two .z (.two .z (.two (.one (.two .z (.two (.d [0,0,3,7,0,0,48,112,255,511,1023,1023,0,6143,16383] [13] []) .z))) .z))) s0 (fun c a=>((c.1,c.2.1,(),(),c.2.2.1,a.1,()),(((pe3 c),(pf4 c),()),(a.2.1,a.2.2,()),()))) (fun y=>((y.2.1.1,y.2.1.2.1),(y.2.2.1.1,y.2.2.1.2.1)))
abbrev qbb:Mdl:=(aq (.cons (.d false (.slice ab.ty)) (.cons (.d false (.slice ab.ty)) .nil)) [] [] 2 q3s (B:=(ab×Int)) (fun b=>((b.1,b.2,()),(()))) (fun a=>mq a.1.1 a.1.2.1))
theorem xq:MdlOK Tryz.prog 40 qbb:=gf Tryz.func40 rfl q9h (.two .z (.two .z (.two .z (.two (.two .z (.s 0)) .z)))) (sC jg4 s0)
def qj1:Shp:=⟨[(0, .d true de.ty),q2j],[]⟩
abbrev wn:Ctx ((de×Int)):=⟨225,tt,false,false,[],fu [(66,qp8),(41,s7),(69,s6),(68,dk),(67,yf),(70,qc7),(71,pb),(72,km),(74,ou),(75,jf),(76,yj),(77,q8),(40,qbb)],ge [ar _ 225 [] qwo (C:=(Int×Int×(List Bool)×Int×(List ab)×(List (List ab))×qL1×(List ab)×Int×(List ab)×(List ab)×(List ab)×Int×Int)) (S:=(Int×(List ab)×Int×Int×qL1×(List (List ab)))) (fun x=>((x.1.2.2.1,(pe3 x.1),(pe5 x.1),(pe7 x.1),x.2.1.1,x.2.1.2.1,x.2.1.2.2.1,(pe3 x.2.1),x.2.2.1.1,x.2.2.1.2.1,x.2.2.1.2.2.1,(pe3 x.2.2.1),(pe4 x.2.2.1),(pe5 x.2.2.1)),((pe8 x.1),(pe3 x).2.1,(pe3 (pe3 x)),(pe4 (pe3 x)),(pe4 x),(pe5 x)))) qwn (CE:=(Int×Int×(List Bool)×(List ab)×(List (List ab))×qL1×(List ab)×Int×(List ab)×(List ab)×(List ab)×Int×Int)) (E:=((List ab)×Int×Int×(List (List ab))×qL1)) (fun c e=>(((),(),c.1,c.2.1,(),c.2.2.1,()),(((pe3 c),(pe4 c),(pe5 c),(pe6 c),()),((pe7 c),(pe8 c),(pe9 c),(pe10 c),(pe11 c),(pf12 c),()),((),e.1,(),e.2.1,e.2.2.1,()),(pe3 e),(pf4 e),()))) (fun c=>(c.1,c.2.1,c.2.2.1,(pe4 c),(pe5 c),(pe6 c),(pe7 c),(pe8 c),(pe9 c),(pe10 c),(pe11 c),(pe12 c),(pf13 c))) (fun{R} c a nx dn rt=>rb c.1 c.2.1 c.2.2.1 (pe3 c) (pe4 c) (pe5 c) (pe6 c) (pe7 c) (pe8 c) (pe9 c) (pe10 c) (pe11 c) (pe12 c) (pf13 c) a.1 a.2.1 a.2.2.1 (pe3 a) (pe4 a) (pf5 a) nx dn rt),ar _ 225 [] qwq (C:=(Int×Int×(List ab)×qL1×Int×Int×(List ab)×(List ab)×(List ab)×Int×Int×(List (List ab))×(List ab)×qL1×Int×Int)) (S:=(Int×(List ab))) (fun x=>((x.1.2.1,(pe3 x.1),(pe4 x.1),(pe6 x.1),(pe7 x.1),x.2.1.1,x.2.1.2.1,x.2.1.2.2.1,(pe3 x.2.1),(pe4 x.2.1),(pe5 x.2.1),x.2.2.1.1,x.2.2.1.2.1,x.2.2.1.2.2.1,(pe3 x.2.2.1),(pe4 x.2.2.1)),((pe8 x.1),(pe3 x)))) qwp (CE:=((List ab)×Int×(List ab)×(List ab)×(List ab)×Int×Int)) (E:=(List ab)) (fun c e=>(((),c.1,(),()),((c.2.1,c.2.2.1,(pe3 c),(pe4 c),(pe5 c),(pf6 c),()),e,()))) (fun c=>(c.2.2.1,(pe5 c),(pe6 c),(pe7 c),(pe8 c),(pe9 c),(pe10 c))) (fun{R} c a nx dn rt=>rc c.1 c.2.1 c.2.2.1 (pe3 c) (pe4 c) (pe5 c) (pe6 c) (pe7 c) (pe8 c) (pe9 c) (pe10 c) (pe11 c) (pe12 c) (pe13 c) (pe14 c) (pf15 c) a.1 a.2 nx dn rt),lg _ 225 [] qws (A:=(Int×Int×(List ab)×Int×(List ab)×(List ab)×(List ab)×Int×Int×(List (List ab))×(List ab)×qL1×Int×Int×(List ab))) (fun x=>(x.1.2.1,(pe3 x.1),(pe4 x.1),x.2.1.1,x.2.1.2.1,x.2.1.2.2.1,(pe3 x.2.1),(pe4 x.2.1),(pe5 x.2.1),x.2.2.1.1,x.2.2.1.2.1,x.2.2.1.2.2.1,(pe3 x.2.2.1),(pe4 x.2.2.1),(pe3 x))) qwr (CE:=Unit) (E:=Unit) (fun c e=>((()),(()))) (fun c=>()) (fun{R} c dn rt=>qal c.1 c.2.1 c.2.2.1 (pe3 c) (pe4 c) (pe5 c) (pe6 c) (pe7 c) (pe8 c) (pe9 c) (pe10 c) (pe11 c) (pe12 c) (pe13 c) (pf14 c) dn rt)],bq 225 tt [] [.cell 2 51, .tmp 3] qj1 (fun x=>(x.1.1,x.1.2.1))⟩
theorem wm:CtxM Tryz.prog wn:=gg fits az (mC qzr (mC t9 (mC tz (mC ea (mC qgn (mC ql0 (mC qbq (mC qo (mC vx (mC mi (mC qgq (mC uv (mC xq m0)))))))))))))
theorem qzy:ax Tryz.prog wn 1 (lc 2 Tryz.f35 2469887):=lp rfl wm .z s0 (fun c a=>(((),c.1,(),c.2.1,c.2.2.1,(),(pe3 c),(pe4 c),a.1,()),(((pe5 c),(pe6 c),(pe7 c),(pe8 c),(pe9 c),(pe10 c),()),((pe11 c),(pe12 c),(pe13 c),(pe14 c),(pf15 c),()),a.2,()))) (fun y=>((y.1.2.1,y.2.1.1,y.2.1.2.1,y.2.1.2.2.1,(pe3 y.2.1),(pe4 y.2.1),(pe5 y.2.1)),y.2.2.1))
theorem qzz:ax Tryz.prog wn 2 (jc Tryz.f35 241663):=jn rfl wm (.two (.two .z (.s 1)) .z) (sC qzy s0) (fun c=>(((),c.1,(),c.2.1,c.2.2.1,(),()),(((pe3 c),(pe4 c),(pe5 c),(pe6 c),(pe7 c),(pe8 c),()),((pe9 c),(pe10 c),(pe11 c),(pe12 c),(pe13 c),()),(pf14 c),()))) (fun y=>((),()))
theorem qzx:ax Tryz.prog wn 0 (lc 0 Tryz.f35 2431):=lp rfl wm (.two .z (.two .z (.two (.one (.two .z (.two .z (.two (.d [0,1,3,7,0,31,63,0,128,384,896,2047,4095,8191] [] []) (.two .z (.two (.two .z (.two .z (.two (.two (.d [0,0,2,6,14,1,63] [5] []) .z) .z))) .z)))))) .z))) s0 (fun c a=>(((),(),c.1,c.2.1,(),c.2.2.1,(),(pe3 c),a.1,()),(((pe4 c),(pe5 c),(pe6 c),(pe7 c),()),((pe8 c),(pe9 c),(pe10 c),(pe11 c),(pe12 c),(pf13 c),()),((),a.2.1,(),a.2.2.1,(pe3 a),()),(pe4 a),(pf5 a),()))) (fun y=>((y.1.2.2.1,(pe3 y.1),(pe5 y.1),y.2.1.1,y.2.1.2.1,y.2.1.2.2.1,(pe3 y.2.1),y.2.2.1.1,y.2.2.1.2.1,y.2.2.1.2.2.1,(pe3 y.2.2.1),(pe4 y.2.2.1),(pe5 y.2.2.1)),((pe3 y).2.1,(pe3 (pe3 y)),(pe4 (pe3 y)),(pe4 y),(pe5 y))))
abbrev qnc:Mdl:=(aq (.cons (.d false Program.ty) .nil) [] [] 2 qj1 (B:=(de×Int)) (fun b=>((b.1,b.2,()),(()))) (fun a=>qak a.1.1))
theorem qwv:MdlOK Tryz.prog 35 qnc:=gf Tryz.func35 rfl wm (.two .z (.two (.d [0,1,3,0,8,24,7,127] [] []) (.two .z (.two .z (.two .z (.two (.two .z (.two (.two (.d [0,0,2,6,14,1,63] [5] []) .z) .z)) (.two (.two (.d [0,1,3,7,0,16,48,112,240,496,1023,2047,4095,8191] [] []) (.two (.two .z (.two (.d [0,1,0,4,12,28,3,127] [6] []) .z)) .z)) (.two (.two .z (.s 0)) (.two .z (.two .z (.two (.two .z (.two (.two (.d [0,0,2,6,14,1,63] [5] []) .z) .z)) (.two .z (.two (.two .z (.two (.two .z (.two .z (.s 2))) .z)) .z))))))))))))) (sC qzx (sC qzz s0))
def qhg:Shp:=⟨[qxo],[]⟩
abbrev qzt:Ctx (Bool):=⟨6,tt,false,false,[],fu [],ge [],bq 6 tt [] [.tmp 2] qhg (fun x=>x.1.1)⟩
theorem qzs:CtxM Tryz.prog qzt:=gg fits az m0
abbrev qjt:Mdl:=(aq (.cons (.d false ab.ty) .nil) [] [] 1 qhg (B:=Bool) (fun b=>((b,()),(()))) (fun a=>qdn a.1.1))
theorem qty:MdlOK Tryz.prog 110 qjt:=gf Tryz.func110 rfl qzs .z s0
def jr:Shp:=⟨[jds],[]⟩
abbrev j1:Ctx (Int):=⟨19,tt,false,false,[],fu [(110,qjt)],ge [ar _ 19 [] pu (C:=((List ab)×Int)) (S:=Int) (fun x=>((x.1.1,x.1.2.2.1),(pe3 x.1))) pt (CE:=Unit) (E:=Unit) (fun c e=>((()),(()))) (fun c=>()) (fun{R} c a nx dn rt=>b7 c.1 c.2 a nx dn rt)],bq 19 tt [] [.tmp 4] jr (fun x=>x.1.1)⟩
theorem jy:CtxM Tryz.prog j1:=gg fits az (mC qty m0)
theorem ql:ax Tryz.prog j1 0 (lc 0 Tryz.f72 37):=lp rfl jy .z s0 (fun c a=>((c.1,(()),c.2,a,()),(()))) (fun y=>((),()))
abbrev jz:Mdl:=(aq (.cons (.d false (.slice ab.ty)) (.cons (.fn 110 .nil) .nil)) [] [] 1 jr (B:=Int) (fun b=>((b,()),(()))) (fun a=>fh a.1.1))
theorem pw:MdlOK Tryz.prog 72 jz:=gf Tryz.func72 rfl jy (.two .z (.two (.two .z (.s 0)) .z)) (sC ql s0)
def ic:Shp:=⟨[qxo],[]⟩
abbrev oz:Ctx (Bool):=⟨9,tt,false,false,[],fu [(72,jz)],ge [],bq 9 tt [] [.tmp 4] ic (fun x=>x.1.1)⟩
theorem oy:CtxM Tryz.prog oz:=gg fits az (mC pw m0)
abbrev ir:Mdl:=(aq (.cons (.d false (.slice ab.ty)) (.cons (.fn 110 .nil) .nil)) [] [] 1 ic (B:=Bool) (fun b=>((b,()),(()))) (fun a=>ek a.1.1))
theorem n5:MdlOK Tryz.prog 78 ir:=gf Tryz.func78 rfl oy .z s0
def qm5:Shp:=⟨[qxo],[]⟩
abbrev q6t:Ctx (Bool):=⟨5,tt,false,false,[],fu [(78,ir)],ge [],bq 5 tt [] [.tmp 2] qm5 (fun x=>x.1.1)⟩
theorem q6s:CtxM Tryz.prog q6t:=gg fits az (mC n5 m0)
abbrev qp9:Mdl:=(aq (.cons (.d false (.slice ab.ty)) .nil) [] [] 1 qm5 (B:=Bool) (fun b=>((b,()),(()))) (fun a=>qca a.1.1))
theorem qzu:MdlOK Tryz.prog 84 qp9:=gf Tryz.func84 rfl q6s .z s0
def qj2:Shp:=⟨[qxo],[]⟩
abbrev q17:Ctx (Bool):=⟨26,tt,false,false,[],fu [(16,qi0)],ge [],bq 26 tt [] [.tmp 6] qj2 (fun x=>x.1.1)⟩
theorem q16:CtxM Tryz.prog q17:=gg fits az (mC qg0 m0)
abbrev qdp:Mdl:=(aq (.cons (.d false ab.ty) (.cons (.d false qT0) (.cons (.d false ab.ty) .nil))) [] [] 1 qj2 (B:=Bool) (fun b=>((b,()),(()))) (fun a=>sx a.1.1 a.1.2.1 a.1.2.2.1))
theorem qhk:MdlOK Tryz.prog 81 qdp:=gf Tryz.func81 rfl q16 .z s0
def qs5:Shp:=⟨[qxo,q2j],[]⟩
abbrev qwg:Ctx ((Bool×Int)):=⟨44,tt,false,false,[],fu [(84,qp9),(40,qbb),(81,qdp)],ge [ar _ 44 [] q6v (C:=((List ab)×(List ab)×(List (List ab))×Int×(List ab)×(List (List ab))×qL1×(List ab))) (S:=Int) (fun x=>((x.1.1,x.1.2.1,(pe3 x.1),(pe4 x.1),x.2.1.1,x.2.1.2.1,x.2.1.2.2.1,(pe3 x.2.1)),(pe5 x.1))) q6u (CE:=Unit) (E:=Unit) (fun c e=>((()),(()))) (fun c=>()) (fun{R} c a nx dn rt=>qaj c.1 c.2.1 c.2.2.1 (pe3 c) (pe4 c) (pe5 c) (pe6 c) (pf7 c) a nx dn rt)],bq 44 tt [] [.tmp 6, .tmp 7] qs5 (fun x=>(x.1.1,x.1.2.1))⟩
theorem qwf:CtxM Tryz.prog qwg:=gg fits az (mC qzu (mC xq (mC qhk m0)))
theorem q81:ax Tryz.prog qwg 0 (lc 0 Tryz.f42 75):=lp rfl qwf (.two .z (.two .z (.two (.one (.two .z (.two .z (.two .z (.two (.d [0,0,2,0,14,30,0,0,192,448,1023,2047] [] []) .z))))) .z))) s0 (fun c a=>((c.1,c.2.1,(),c.2.2.1,(pe3 c),a,()),(((pe4 c),(pe5 c),(pe6 c),(pf7 c),()),()))) (fun y=>((),()))
abbrev qlv:Mdl:=(aq (.cons (.d false Program.ty) (.cons (.d false (.slice ab.ty)) (.cons (.d false (.slice ab.ty)) .nil))) [] [] 2 qs5 (B:=(Bool×Int)) (fun b=>((b.1,b.2,()),(()))) (fun a=>qc4 a.1.1 a.1.2.1 a.1.2.2.1))
theorem qqb:MdlOK Tryz.prog 42 qlv:=gf Tryz.func42 rfl qwf (.two .z (.two .z (.two (.two .z (.s 0)) .z))) (sC q81 s0)
def qf2:Shp:=⟨[qxo],[]⟩
abbrev qwm:Ctx (Bool):=⟨26,tt,false,false,[],fu [(37,vk),(42,qlv)],ge [],bq 26 tt [] [.tmp 4] qf2 (fun x=>x.1.1)⟩
theorem qwl:CtxM Tryz.prog qwm:=gg fits az (mC wl (mC qqb m0))
abbrev qhi:Mdl:=(aq (.cons (.d false Program.ty) (.cons (.d false (.slice ab.ty)) .nil)) [] [] 1 qf2 (B:=Bool) (fun b=>((b,()),(()))) (fun a=>ny a.1.1 a.1.2.1))
theorem qr0:MdlOK Tryz.prog 36 qhi:=gf Tryz.func36 rfl qwl .z s0
def qjy:Shp:=⟨[qxo],[]⟩
abbrev qnb:Ctx (Bool):=⟨39,tt,false,false,[],fu [],ge [ar _ 39 [] qwk (C:=((List ab)×Int×(List ab)×(List (List ab))×qL1×(List ab))) (S:=Int) (fun x=>((x.1.2.1,x.1.2.2.1,x.2.1.1,x.2.1.2.1,x.2.1.2.2.1,(pe3 x.2.1)),(pe3 x.1))) qwj (CE:=Unit) (E:=Unit) (fun c e=>((()),(()))) (fun c=>()) (fun{R} c a nx dn rt=>q9 c.1 c.2.1 c.2.2.1 (pe3 c) (pe4 c) (pf5 c) a nx dn rt)],bq 39 tt [] [.tmp 4] qjy (fun x=>x.1.1)⟩
theorem qna:CtxM Tryz.prog qnb:=gg fits az m0
theorem qzw:ax Tryz.prog qnb 0 (lc 0 Tryz.f38 37):=lp rfl qna .z s0 (fun c a=>(((),c.1,c.2.1,a,()),((c.2.2.1,(pe3 c),(pe4 c),(pf5 c),()),()))) (fun y=>((),()))
abbrev qdo:Mdl:=(aq (.cons (.d false Program.ty) (.cons (.d false (.slice ab.ty)) .nil)) [] [] 1 qjy (B:=Bool) (fun b=>((b,()),(()))) (fun a=>l8 a.1.1 a.1.2.1))
theorem qhh:MdlOK Tryz.prog 38 qdo:=gf Tryz.func38 rfl qna (.two .z (.two (.two .z (.s 0)) .z)) (sC qzw s0)
def qjv:Shp:=⟨[j92],[qau]⟩
abbrev qm8:Ctx ((List ab)):=⟨24,tt,false,false,[],fu [],ge [ar _ 24 [] qwc (C:=(Int×(List (List ab))×Int)) (S:=(Int×(List ab))) (fun x=>((x.1.1,x.1.2.2.1,(pe3 x.1)),((pe4 x.1),x.2.1))) qwb (CE:=Unit) (E:=(List ab)) (fun c e=>(((),()),(e,()))) (fun c=>()) (fun{R} c a nx dn rt=>q7 c.1 c.2.1 c.2.2 a.1 a.2 nx dn rt)],bq 24 tt [] [.tmp 4] qjv (fun x=>x.2.1)⟩
theorem qm6:CtxM Tryz.prog qm8:=gg fits az m0
theorem qzv:ax Tryz.prog qm8 0 (lc 0 Tryz.f80 75):=lp rfl qm6 .z s0 (fun c a=>((c.1,(),c.2.1,c.2.2,a.1,()),(a.2,()))) (fun y=>((),y.2.1))
abbrev qm7:Mdl:=(aq (.cons (.d false Program.ty) (.cons (.d false qT0) .nil)) [] [] 1 qjv (B:=(List ab)) (fun b=>(((),()),(b,()))) (fun a=>qai a.1.1 a.1.2.1))
theorem qwd:MdlOK Tryz.prog 80 qm7:=gf Tryz.func80 rfl qm6 (.two .z (.two .z (.two (.two .z (.s 0)) .z))) (sC qzv s0)
def qne:Shp:=⟨[qxo,q2j],[]⟩
abbrev qqd:Ctx ((Bool×Int)):=⟨36,tt,false,false,[],fu [(80,qm7),(40,qbb),(81,qdp)],ge [ar _ 36 [] qz1 (C:=((List ab)×(List ab)×Int×(List ab)×(List (List ab))×qL1×(List ab))) (S:=Int) (fun x=>((x.1.1,x.1.2.1,(pe3 x.1),x.2.1.1,x.2.1.2.1,x.2.1.2.2.1,(pe3 x.2.1)),(pe4 x.1))) qz0 (CE:=Unit) (E:=Unit) (fun c e=>((()),(()))) (fun c=>()) (fun{R} c a nx dn rt=>tx c.1 c.2.1 c.2.2.1 (pe3 c) (pe4 c) (pe5 c) (pf6 c) a nx dn rt)],bq 36 tt [] [.tmp 6, .tmp 7] qne (fun x=>(x.1.1,x.1.2.1))⟩
theorem qqc:CtxM Tryz.prog qqd:=gg fits az (mC qwd (mC xq (mC qhk m0)))
theorem q18:ax Tryz.prog qqd 0 (lc 0 Tryz.f39 37):=lp rfl qqc (.two .z (.two .z (.two (.one (.two .z (.two .z (.two .z (.two (.d [0,0,0,6,14,31,63] [] []) .z))))) .z))) s0 (fun c a=>((c.1,c.2.1,(),c.2.2.1,a,()),(((pe3 c),(pe4 c),(pe5 c),(pf6 c),()),()))) (fun y=>((),()))
abbrev qf9:Mdl:=(aq (.cons (.d false Program.ty) (.cons (.d false (.slice ab.ty)) (.cons (.d false (.slice ab.ty)) .nil))) [] [] 2 qne (B:=(Bool×Int)) (fun b=>((b.1,b.2,()),(()))) (fun a=>lw a.1.1 a.1.2.1 a.1.2.2.1))
theorem qj5:MdlOK Tryz.prog 39 qf9:=gf Tryz.func39 rfl qqc (.two .z (.two (.two .z (.s 0)) .z)) (sC q18 s0)
def qmz:Shp:=⟨[qxo],[]⟩
abbrev q6p:Ctx (Bool):=⟨228,tt,false,false,[],fu [(34,qah),(36,qhi),(37,vk),(38,qdo),(39,qf9),(40,qbb),(41,s7),(42,qlv)],ge [],bq 228 tt [] [.tmp 4] qmz (fun x=>x.1.1)⟩
theorem q6o:CtxM Tryz.prog q6p:=gg fits az (mC qbk (mC qr0 (mC wl (mC qhh (mC qj5 (mC xq (mC t9 (mC qqb m0))))))))
abbrev qfy:Mdl:=(aq (.cons (.d false Program.ty) (.cons (.d false de.ty) .nil)) [] [] 1 qmz (B:=Bool) (fun b=>((b,()),(()))) (fun a=>p9 a.1.1 a.1.2.1))
theorem qjr:MdlOK Tryz.prog 15 qfy:=gf Tryz.func15 rfl q6o (.two .z (.two .z (.two (.d [0,1,3,0,8,24,7,127] [] []) (.two (.two .z (.one (.two .z (.two .z (.two .z (.two (.two .z (.two (.d [0,0,2,0,8,31,63,127,127,255,1023] [] []) .z)) (.two .z (.two (.two .z (.two (.d [0,0,2,0,8,31,63,127,127,255,1023] [] []) .z)) .z)))))))) .z)))) s0
def qm0:Shp:=⟨[(0, .d true de.ty),q2j],[]⟩
abbrev q6r:Ctx ((de×Int)):=⟨25,tt,false,false,[],fu [(34,qah),(35,qnc),(15,qfy)],ge [],bq 25 tt [] [.cell 2 51, .tmp 3] qm0 (fun x=>(x.1.1,x.1.2.1))⟩
theorem q6q:CtxM Tryz.prog q6r:=gg fits az (mC qbk (mC qwv (mC qjr m0)))
abbrev qfz:Mdl:=(aq (.cons (.d false Program.ty) .nil) [] [] 2 qm0 (B:=(de×Int)) (fun b=>((b.1,b.2,()),(()))) (fun a=>vj a.1.1))
theorem qjs:MdlOK Tryz.prog 14 qfz:=gf Tryz.func14 rfl q6q .z s0
def ss:Shp:=⟨[j6k,j93],[qau]⟩
abbrev uh:Ctx ((Bool×(List ab))):=⟨110,tt,false,false,[],fu [(59,gl),(68,dk),(33,qfs),(14,qfz),(82,qey)],ge [ar _ 110 [] qes (C:=(kg×qL1×Int×Int×(List ab)×(List ab)×(List ab)×Int×Int)) (S:=(Int×(List ab))) (fun x=>((x.1.1,(pe3 x.1),(pe4 x.1),x.2.2.1.1,x.2.2.1.2.1,x.2.2.1.2.2.1,(pe3 x.2.2.1),(pe4 x.2.2.1),(pe5 x.2.2.1)),((pe5 x.1),x.2.1))) qer (CE:=Unit) (E:=(List ab)) (fun c e=>(((),()),(e,()))) (fun c=>()) (fun{R} c a nx dn rt=>g8 c.1 c.2.1 c.2.2.1 (pe3 c) (pe4 c) (pe5 c) (pe6 c) (pe7 c) (pf8 c) a.1 a.2 nx dn rt)],bq 110 tt [] [.tmp 4, .tmp 5] ss (fun x=>(x.1.2.1,x.2.1))⟩
theorem uf:CtxM Tryz.prog uh:=gg fits az (mC fc (mC ea (mC qjn (mC qjs (mC qcf m0)))))
theorem qft:ax Tryz.prog uh 0 (lc 0 Tryz.f54 2431):=lp rfl uf (.two .z (.two .z (.two (.one (.two .z (.two .z (.two .z (.two (.two (.d [0,0,3,7,0,16,48,112,240,496,1008,2047,4095,8191,8191,0,49151,131071] [16] []) .z) .z))))) .z))) s0 (fun c a=>((c.1,(),(),c.2.1,c.2.2.1,a.1,()),(a.2,((pe3 c),(pe4 c),(pe5 c),(pe6 c),(pe7 c),(pf8 c),()),()))) (fun y=>((),y.2.1))
abbrev ug:Mdl:=(aq (.cons (.rp false kg.ty) (.cons (.d false au.ty) .nil)) [] [] 2 ss (B:=(Bool×(List ab))) (fun b=>(((),b.1,()),(b.2,()))) (fun a=>kd a.1.1 a.1.2.1))
theorem qet:MdlOK Tryz.prog 54 ug:=gf Tryz.func54 rfl uf (.two .z (.two (.d [0,1,0,4,12,28,60,127,255] [] []) (.two .z (.two (.d [0,1,3,7,0,16,48,112,0,511,1023,2047,2047,0,12287,32767] [14] []) (.two .z (.two .z (.two .z (.two (.two .z (.s 0)) .z)))))))) (sC qft s0)
def qjo:Shp:=⟨[qxo],[]⟩
abbrev q1t:Ctx (Bool):=⟨11,tt,false,false,[],fu [(44,xr)],ge [],bq 11 tt [] [.tmp 2] qjo (fun x=>x.1.1)⟩
theorem q1s:CtxM Tryz.prog q1t:=gg fits az (mC u5 m0)
abbrev qmr:Mdl:=(aq (.cons (.d false ab.ty) .nil) [] [] 1 qjo (B:=Bool) (fun b=>((b,()),(()))) (fun a=>qfv a.1.1))
theorem qv8:MdlOK Tryz.prog 100 qmr:=gf Tryz.func100 rfl q1s .z s0
def jm:Shp:=⟨[jds],[]⟩
abbrev ju:Ctx (Int):=⟨19,tt,false,false,[],fu [(100,qmr)],ge [ar _ 19 [] pi (C:=((List ab)×Int)) (S:=Int) (fun x=>((x.1.1,x.1.2.2.1),(pe3 x.1))) ph (CE:=Unit) (E:=Unit) (fun c e=>((()),(()))) (fun c=>()) (fun{R} c a nx dn rt=>bx c.1 c.2 a nx dn rt)],bq 19 tt [] [.tmp 4] jm (fun x=>x.1.1)⟩
theorem js:CtxM Tryz.prog ju:=gg fits az (mC qv8 m0)
theorem qj:ax Tryz.prog ju 0 (lc 0 Tryz.f72 37):=lp rfl js .z s0 (fun c a=>((c.1,(()),c.2,a,()),(()))) (fun y=>((),()))
abbrev jt:Mdl:=(aq (.cons (.d false (.slice ab.ty)) (.cons (.fn 100 .nil) .nil)) [] [] 1 jm (B:=Int) (fun b=>((b,()),(()))) (fun a=>fg a.1.1))
theorem pj:MdlOK Tryz.prog 72 jt:=gf Tryz.func72 rfl js (.two .z (.two (.two .z (.s 0)) .z)) (sC qj s0)
def ib:Shp:=⟨[qxo],[]⟩
abbrev ox:Ctx (Bool):=⟨9,tt,false,false,[],fu [(72,jt)],ge [],bq 9 tt [] [.tmp 4] ib (fun x=>x.1.1)⟩
theorem ow:CtxM Tryz.prog ox:=gg fits az (mC pj m0)
abbrev iq:Mdl:=(aq (.cons (.d false (.slice ab.ty)) (.cons (.fn 100 .nil) .nil)) [] [] 1 ib (B:=Bool) (fun b=>((b,()),(()))) (fun a=>cw a.1.1))
theorem n4:MdlOK Tryz.prog 78 iq:=gf Tryz.func78 rfl ow .z s0
def qsu:Shp:=⟨[jdq,j93],[]⟩
abbrev z6:Ctx ((ab×Bool)):=⟨108,tt,false,false,[],fu [(59,gl),(40,qbb),(107,qi2),(82,qey),(83,qiz)],ge [ar _ 108 [] q53 (C:=((List ae)×(List ab)×qL1×Int×qL1×qL1×Int×Int)) (S:=(Int×(List ab))) (fun x=>((x.1.1,x.1.2.1,(pe5 x.1),(pe6 x.1),x.2.1.1,x.2.1.2.1,x.2.2.1.1,x.2.2.1.2.1),((pe7 x.1),(pe3 x)))) q52 (CE:=((List ae)×(List ab)×qL1×qL1×Int×Int)) (E:=(List ab)) (fun c e=>((c.1,c.2.1,(),(),(),()),((c.2.2.1,(pe3 c),()),((pe4 c),(pf5 c),()),e,()))) (fun c=>(c.1,c.2.1,(pe4 c),(pe5 c),(pe6 c),(pf7 c))) (fun{R} c a nx dn rt=>z5 c.1 c.2.1 c.2.2.1 (pe3 c) (pe4 c) (pe5 c) (pe6 c) (pf7 c) a.1 a.2 nx dn rt),ar _ 108 [] q55 (C:=((List ab)×Int×(List ae)×Int×Int×qL1×Int×qL1×qL1×Int×Int×Int×Int)) (S:=(Int×Int×Int)) (fun x=>((x.1.1,(pe4 x.1),(pe6 x.1),(pe7 x.1),(pe8 x.1),(pe9 x.1),(pe10 x.1),x.2.1.1,x.2.1.2.1,x.2.2.1.1,x.2.2.1.2.1,(pe3 x).1,(pe3 x).2.1),((pe11 x.1),(pe4 x).1,(pe4 x).2.1))) q54 (CE:=((List ab)×Int×(List ae)×Int×Int×qL1×qL1×Int×Int×Int×Int)) (E:=(Int×Int)) (fun c e=>((c.1,(),(),(),c.2.1,(),c.2.2.1,(pe3 c),(pe4 c),()),(((pe5 c),(pe6 c),()),((pe7 c),(pe8 c),()),((pe9 c),(pf10 c),()),(e.1,e.2,()),()))) (fun c=>(c.1,c.2.1,c.2.2.1,(pe3 c),(pe4 c),(pe7 c),(pe8 c),(pe9 c),(pe10 c),(pe11 c),(pf12 c))) (fun{R} c a nx dn rt=>kh c.1 c.2.1 c.2.2.1 (pe3 c) (pe4 c) (pe5 c) (pe6 c) (pe7 c) (pe8 c) (pe9 c) (pe10 c) (pe11 c) (pf12 c) a.1 a.2.1 a.2.2 nx dn rt),lg _ 108 [] q59 (A:=((List ab)×Int×(List ae)×Int×Int×qL1×qL1×Int×Int×Int×Int×Int×Int)) (fun x=>(x.1.1,(pe5 x.1),(pe6 x.1),(pe7 x.1),(pe8 x.1),x.2.1.1,x.2.1.2.1,x.2.2.1.1,x.2.2.1.2.1,(pe3 x).1,(pe3 x).2.1,(pe4 x).1,(pe4 x).2.1)) q58 (CE:=((List ab)×(List ae)×Int×Int×qL1×qL1×Int×Int)) (E:=(Int×Int)) (fun c e=>((c.1,(),(),(),c.2.1,c.2.2.1,(pe3 c),()),(((pe4 c),(pe5 c),()),((pe6 c),(pf7 c),()),(e.1,e.2,()),()))) (fun c=>(c.1,c.2.2.1,(pe3 c),(pe4 c),(pe5 c),(pe6 c),(pe7 c),(pe8 c))) (fun{R} c dn rt=>sq c.1 c.2.1 c.2.2.1 (pe3 c) (pe4 c) (pe5 c) (pe6 c) (pe7 c) (pe8 c) (pe9 c) (pe10 c) (pe11 c) (pf12 c) dn rt),ar _ 108 [] q57 (C:=((List ab)×(List ae)×Int×qL1×qL1×Int×Int)) (S:=(Int×Int×Int)) (fun x=>((x.1.1,(pe4 x.1),(pe5 x.1),x.2.1.1,x.2.1.2.1,x.2.2.1.1,x.2.2.1.2.1),((pe6 x.1),(pe3 x).1,(pe3 x).2.1))) q56 (CE:=(Int×Int)) (E:=(Int×Int)) (fun c e=>(((),(),()),((c.1,c.2,()),(e.1,e.2,()),()))) (fun c=>((pe5 c),(pf6 c))) (fun{R} c a nx dn rt=>kj c.1 c.2.1 c.2.2.1 (pe3 c) (pe4 c) (pe5 c) (pf6 c) a.1 a.2.1 a.2.2 nx dn rt)],bq 108 tt [] [.cell 8 49, .tmp 9] qsu (fun x=>(x.1.1,x.1.2.1))⟩
theorem z4:CtxM Tryz.prog z6:=gg fits az (mC fc (mC xq (mC qg1 (mC qcf (mC qgz m0)))))
theorem q8o:ax Tryz.prog z6 2 (jc Tryz.f101 517727):=jn rfl z4 (.two (.d [0,0,2,7,15,31,31,0,191,511] [8] []) .z) s0 (fun c=>((c.1,(),(),(),(),c.2.1,c.2.2.1,(pe3 c),(pe4 c),()),(((pe5 c),(pe6 c),()),((pe7 c),(pe8 c),()),((pe9 c),(pe10 c),()),((pe11 c),(pf12 c),()),()))) (fun y=>((y.1.1,(pe4 y.1),(pe5 y.1),(pe6 y.1),y.2.1.1,y.2.1.2.1,y.2.2.1.1,y.2.2.1.2.1),((pe3 y).1,(pe3 y).2.1)))
theorem q8n:ax Tryz.prog z6 1 (lc 4 Tryz.f101 616031):=lp rfl z4 (.two .z (.two .z (.two (.one (.two .z (.two (.d [0,0,0,6,14,31,63,127,127,255,1023] [9] []) .z))) .z))) s0 (fun c a=>((c.1,(),(),(),c.2.1,(),c.2.2.1,(pe3 c),(pe4 c),(pe5 c),(pe6 c),a.1,()),(((pe7 c),(pe8 c),()),((pe9 c),(pe10 c),()),((pe11 c),(pf12 c),()),(a.2.1,a.2.2,()),()))) (fun y=>((y.1.1,(pe4 y.1),(pe6 y.1),(pe7 y.1),(pe8 y.1),y.2.1.1,y.2.1.2.1,y.2.2.1.1,y.2.2.1.2.1,(pe3 y).1,(pe3 y).2.1),((pe4 y).1,(pe4 y).2.1)))
theorem q8p:ax Tryz.prog z6 3 (lc 2 Tryz.f101 607):=lp rfl z4 (.two .z (.two .z (.two (.one (.two .z (.two .z (.two (.two .z (.s 1)) (.two .z (.two .z (.s 2))))))) .z))) (sC q8n (sC q8o s0)) (fun c a=>((c.1,(),(),(),c.2.1,c.2.2.1,a.1,()),(((pe3 c),(pe4 c),()),((pe5 c),(pf6 c),()),(a.2.1,a.2.2,()),()))) (fun y=>((y.2.1.1,y.2.1.2.1),(y.2.2.1.1,y.2.2.1.2.1)))
theorem q8m:ax Tryz.prog z6 0 (lc 0 Tryz.f101 75):=lp rfl z4 .z s0 (fun c a=>((c.1,c.2.1,(),(),(),c.2.2.1,(pe3 c),a.1,()),(((pe4 c),(pe5 c),()),((pe6 c),(pf7 c),()),a.2,()))) (fun y=>((y.1.1,y.1.2.1,y.2.1.1,y.2.1.2.1,y.2.2.1.1,y.2.2.1.2.1),(pe3 y)))
abbrev qv0:Mdl:=(aq (.cons (.d false qT1) (.cons (.d false (.slice ae.ty)) (.cons (.d false au.ty) (.cons (.d false (.slice ab.ty)) .nil)))) [] [] 2 qsu (B:=(ab×Bool)) (fun b=>((b.1,b.2,()),(()))) (fun a=>my a.1.1 a.1.2.1 a.1.2.2.1 (pe3 a.1)))
theorem q6a:MdlOK Tryz.prog 101 qv0:=gf Tryz.func101 rfl z4 (.two .z (.two .z (.two (.two .z (.s 0)) (.two .z (.two .z (.two (.two .z (.s 3)) .z)))))) (sC q8m (sC q8p s0))
def qpu:Shp:=⟨[qxo],[]⟩
abbrev q8u:Ctx (Bool):=⟨48,tt,false,false,[],fu [(78,iq),(101,qv0),(59,gl),(16,qi0)],ge [],bq 48 tt [] [.tmp 10] qpu (fun x=>x.1.1)⟩
theorem q8t:CtxM Tryz.prog q8u:=gg fits az (mC n4 (mC q6a (mC fc (mC qg0 m0))))
abbrev qh8:Mdl:=(aq (.cons (.d false qT1) (.cons (.d false (.slice ae.ty)) (.cons (.d false au.ty) (.cons (.d false (.slice ab.ty)) (.cons (.d false qT0) .nil))))) [] [] 1 qpu (B:=Bool) (fun b=>((b,()),(()))) (fun a=>li a.1.1 a.1.2.1 a.1.2.2.1 (pe3 a.1) (pe4 a.1)))
theorem qms:MdlOK Tryz.prog 55 qh8:=gf Tryz.func55 rfl q8t (.two .z (.two .z (.two .z (.two .z (.two (.d [0,0,2,6,15,31,63,63,127,511] [] []) .z))))) s0
def qa4:Shp:=⟨[j6k],[qau]⟩
abbrev qpt:Ctx ((List ab)):=⟨38,tt,false,false,[],fu [(59,gl),(68,dk),(24,oq)],ge [],bq 38 tt [] [.tmp 4] qa4 (fun x=>x.2.1)⟩
theorem qps:CtxM Tryz.prog qpt:=gg fits az (mC fc (mC ea (mC nw m0)))
abbrev qc2:Mdl:=(aq (.cons (.rp false kg.ty) (.cons (.d false au.ty) .nil)) [] [] 1 qa4 (B:=(List ab)) (fun b=>(((),()),(b,()))) (fun a=>nn a.1.1 a.1.2.1))
theorem qlu:MdlOK Tryz.prog 56 qc2:=gf Tryz.func56 rfl qps (.two .z (.two (.d [0,1,0,4,12,28,60,127,255] [] []) (.two (.two (.d [0,1,3,7,0,16,48,112,0,256,1023,2047] [] []) .z) .z))) s0
def qfq:Shp:=⟨[(0, .d true au.ty),(1, .d true au.ty)],[]⟩
abbrev qv2:Ctx ((au×au)):=⟨37,tt,false,false,[],fu [(53,qi)],ge [],bq 37 tt [] [.cell 6 85, .cell 7 85] qfq (fun x=>(x.1.1,x.1.2.1))⟩
theorem qv1:CtxM Tryz.prog qv2:=gg fits az (mC yl m0)
abbrev z7:Mdl:=(aq (.cons (.d false au.ty) (.cons (.d false qT0) (.cons (.d false qT0) .nil))) [] [] 2 qfq (B:=(au×au)) (fun b=>((b.1,b.2,()),(()))) (fun a=>nv a.1.1 a.1.2.1 a.1.2.2.1))
theorem qdv:MdlOK Tryz.prog 57 z7:=gf Tryz.func57 rfl qv1 (.two .z (.two (.d [0,1,3,0,8,31,63,0,255] [8] []) (.two (.d [0,1,3,0,8,31,63,0,255] [8] []) (.two (.d [0,1,0,0,8,0,0,0,128,71,583,2047,4095] [10,12] []) (.two (.d [0,0,1,7] [2,3] []) .z))))) s0
def dg:Shp:=⟨[(0, .d true aw.ty),j93],[q82]⟩
abbrev ut(rec:((Unit×au×Unit)×((qL1×(List ae)×Int×Int×Unit)×Unit))→Option (aw×Bool×qL1×(List ae)×Int×Int)):Ctx ((aw×Bool×qL1×(List ae)×Int×Int)):=⟨163,tt,false,false,[true],fu [(54,ug),(55,qh8),(56,qc2),(57,z7),(27,(aq (.cons (.ptr 0) (.cons (.d false au.ty) .nil)) [.cs 81 4 1 (.cons (.d true qT1) (.cons (.d true (.slice ae.ty)) (.cons (.d false qT0) (.cons (.d false qT0) .nil))))] [true] 2 dg (B:=(aw×Bool×qL1×(List ae)×Int×Int)) (fun b=>((b.1,b.2.1,()),((b.2.2.1,(pe3 b),(pe4 b),(pf5 b),()),()))) rec))],ge [ar _ 163 [true] qn5 (C:=(Int×qL1×(List ae)×Int×Int×qL1×qL1×Int×Int×(List aw)×(List ab))) (S:=(Int×Int)) (fun x=>(((pe4 x.1),x.2.1.1,x.2.1.2.1,x.2.1.2.2.1,(pe3 x.2.1),x.2.2.1.1,x.2.2.1.2.1,(pe3 x).1,(pe3 x).2.1,(pe3 x).2.2.1,(pe3 (pe3 x))),((pe3 x.1),(pe5 x.1)))) qn4 (CE:=(qL1×(List ae)×Int×Int×qL1×qL1×Int×Int×(List aw)×(List ab))) (E:=Int) (fun c e=>(((),(),(),e,()),((c.1,c.2.1,c.2.2.1,(pe3 c),()),((pe4 c),(pe5 c),()),((pe6 c),(pe7 c),(pe8 c),(pf9 c),()),()))) (fun c=>(c.2.1,c.2.2.1,(pe3 c),(pe4 c),(pe5 c),(pe6 c),(pe7 c),(pe8 c),(pe9 c),(pf10 c))) (fun{R} c a nx dn rt=>me rec c.1 c.2.1 c.2.2.1 (pe3 c) (pe4 c) (pe5 c) (pe6 c) (pe7 c) (pe8 c) (pe9 c) (pf10 c) a.1 a.2 nx dn rt),lg _ 163 [true] qn7 (A:=(qL1×(List ae)×Int×Int×qL1×qL1×Int×Int×(List aw)×(List ab))) (fun x=>(x.2.1.1,x.2.1.2.1,x.2.1.2.2.1,(pe3 x.2.1),x.2.2.1.1,x.2.2.1.2.1,(pe3 x).1,(pe3 x).2.1,(pe3 x).2.2.1,(pe3 (pe3 x)))) qn6 (CE:=Unit) (E:=Unit) (fun c e=>((()),(()))) (fun c=>()) (fun{R} c dn rt=>qf rec c.1 c.2.1 c.2.2.1 (pe3 c) (pe4 c) (pe5 c) (pe6 c) (pe7 c) (pe8 c) (pf9 c) dn rt)],bq 163 tt [true] [.cell 4 32, .tmp 5] dg (fun x=>(x.1.1,x.1.2.1,x.2.1.1,x.2.1.2.1,x.2.1.2.2.1,(pe3 x.2.1)))⟩
theorem us(rec:((Unit×au×Unit)×((qL1×(List ae)×Int×Int×Unit)×Unit))→Option (aw×Bool×qL1×(List ae)×Int×Int))(hrec:MdlOK Tryz.prog 27 (aq (.cons (.ptr 0) (.cons (.d false au.ty) .nil)) [.cs 81 4 1 (.cons (.d true qT1) (.cons (.d true (.slice ae.ty)) (.cons (.d false qT0) (.cons (.d false qT0) .nil))))] [true] 2 dg (B:=(aw×Bool×qL1×(List ae)×Int×Int)) (fun b=>((b.1,b.2.1,()),((b.2.2.1,(pe3 b),(pe4 b),(pf5 b),()),()))) rec)):CtxM Tryz.prog (ut rec):=gg fits az (mC qet (mC qms (mC qlu (mC qdv (mC hrec m0)))))
theorem qpq(rec:((Unit×au×Unit)×((qL1×(List ae)×Int×Int×Unit)×Unit))→Option (aw×Bool×qL1×(List ae)×Int×Int))(hrec:MdlOK Tryz.prog 27 (aq (.cons (.ptr 0) (.cons (.d false au.ty) .nil)) [.cs 81 4 1 (.cons (.d true qT1) (.cons (.d true (.slice ae.ty)) (.cons (.d false qT0) (.cons (.d false qT0) .nil))))] [true] 2 dg (B:=(aw×Bool×qL1×(List ae)×Int×Int)) (fun b=>((b.1,b.2.1,()),((b.2.2.1,(pe3 b),(pe4 b),(pf5 b),()),()))) rec)):ax Tryz.prog (ut rec) 0 (lc 0 Tryz.f27 607):=lp rfl (us rec hrec) (.two .z (.two .z (.two (.one (.two .z (.two (.d [0,1,0,7,15,0,32,0,224,480,1023,2047] [] []) (.two (.d [0,1,3,7,15,31,63,63,191,63,959,1983,63,4159,63,28735,61503,131007,262143,524287,1048575] [] []) .z)))) .z))) s0 (fun c a=>(((),(),(),a.1,c.1,a.2,()),((c.2.1,c.2.2.1,(pe3 c),(pe4 c),()),((pe5 c),(pe6 c),()),((pe7 c),(pe8 c),(pe9 c),(pf10 c),()),()))) (fun y=>((y.2.1.1,y.2.1.2.1,y.2.1.2.2.1,(pe3 y.2.1),y.2.2.1.1,y.2.2.1.2.1,(pe3 y).1,(pe3 y).2.1,(pe3 y).2.2.1,(pe3 (pe3 y))),(pe3 y.1)))
theorem qpr(rec:((Unit×au×Unit)×((qL1×(List ae)×Int×Int×Unit)×Unit))→Option (aw×Bool×qL1×(List ae)×Int×Int))(hrec:MdlOK Tryz.prog 27 (aq (.cons (.ptr 0) (.cons (.d false au.ty) .nil)) [.cs 81 4 1 (.cons (.d true qT1) (.cons (.d true (.slice ae.ty)) (.cons (.d false qT0) (.cons (.d false qT0) .nil))))] [true] 2 dg (B:=(aw×Bool×qL1×(List ae)×Int×Int)) (fun b=>((b.1,b.2.1,()),((b.2.2.1,(pe3 b),(pe4 b),(pf5 b),()),()))) rec)):ax Tryz.prog (ut rec) 1 (jc Tryz.f27 15):=jn rfl (us rec hrec) (.two (.two .z (.two (.d [0,1,3,7,0,16,48,112,0,0,0,1024,3072,7168,16383] [] []) .z)) (.two .z (.two (.two .z (.s 0)) (.two .z (.two (.d [0,1,0,7,15,0,32,0,224,480,1023,2047,4095] [] []) .z))))) (sC (qpq rec hrec) s0) (fun c=>(((),(),(),()),((c.1,c.2.1,c.2.2.1,(pe3 c),()),((pe4 c),(pe5 c),()),((pe6 c),(pe7 c),(pe8 c),(pf9 c),()),()))) (fun y=>((),()))
abbrev qdz:Mdl:=(aq (.cons (.ptr 0) (.cons (.d false au.ty) .nil)) [.cs 81 4 1 (.cons (.d true qT1) (.cons (.d true (.slice ae.ty)) (.cons (.d false qT0) (.cons (.d false qT0) .nil))))] [true] 2 dg (B:=(aw×Bool×qL1×(List ae)×Int×Int)) (fun b=>((b.1,b.2.1,()),((b.2.2.1,(pe3 b),(pe4 b),(pf5 b),()),()))) (fun(a:((Unit×au×Unit)×((qL1×(List ae)×Int×Int×Unit)×Unit)))=>qd0 a))
theorem qlt(rec:((Unit×au×Unit)×((qL1×(List ae)×Int×Int×Unit)×Unit))→Option (aw×Bool×qL1×(List ae)×Int×Int))(hrec:MdlOK Tryz.prog 27 (aq (.cons (.ptr 0) (.cons (.d false au.ty) .nil)) [.cs 81 4 1 (.cons (.d true qT1) (.cons (.d true (.slice ae.ty)) (.cons (.d false qT0) (.cons (.d false qT0) .nil))))] [true] 2 dg (B:=(aw×Bool×qL1×(List ae)×Int×Int)) (fun b=>((b.1,b.2.1,()),((b.2.2.1,(pe3 b),(pe4 b),(pf5 b),()),()))) rec)):MdlOK Tryz.prog 27 (aq (.cons (.ptr 0) (.cons (.d false au.ty) .nil)) [.cs 81 4 1 (.cons (.d true qT1) (.cons (.d true (.slice ae.ty)) (.cons (.d false qT0) (.cons (.d false qT0) .nil))))] [true] 2 dg (B:=(aw×Bool×qL1×(List ae)×Int×Int)) (fun b=>((b.1,b.2.1,()),((b.2.2.1,(pe3 b),(pe4 b),(pf5 b),()),()))) ((fun(rec:((Unit×au×Unit)×((qL1×(List ae)×Int×Int×Unit)×Unit))→Option (aw×Bool×qL1×(List ae)×Int×Int)) (a:((Unit×au×Unit)×((qL1×(List ae)×Int×Int×Unit)×Unit)))=>i7 rec a.1.2.1 a.2.1.1 a.2.1.2.1 a.2.1.2.2.1 (pe3 a.2.1)) rec)):=gf Tryz.func27 rfl (us rec hrec) (.two .z (.two .z (.two (.two .z (.two (.d [0,1,3,7,15,31,3,67,195,451,3,3,3,4099,12291,28675,65535,131071] [] []) .z)) (.s 1)))) (sC (qpr rec hrec) s0)
theorem qn8:MdlOK Tryz.prog 27 qdz:=jhr (B:=(aw×Bool×qL1×(List ae)×Int×Int)) (c:=qte Tryz.f27) (l:=(.cons (.ptr 0) (.cons (.d false au.ty) .nil))) (objs:=[.cs 81 4 1 (.cons (.d true qT1) (.cons (.d true (.slice ae.ty)) (.cons (.d false qT0) (.cons (.d false qT0) .nil))))]) (kp:=[true]) (k:=2) (sh:=dg) (mk:=(fun b=>((b.1,b.2.1,()),((b.2.2.1,(pe3 b),(pe4 b),(pf5 b),()),())))) (F:=(fun(rec:((Unit×au×Unit)×((qL1×(List ae)×Int×Int×Unit)×Unit))→Option (aw×Bool×qL1×(List ae)×Int×Int)) (a:((Unit×au×Unit)×((qL1×(List ae)×Int×Int×Unit)×Unit)))=>i7 rec a.1.2.1 a.2.1.1 a.2.1.2.1 a.2.1.2.2.1 (pe3 a.2.1))) Tryz.func27 (by rfl) (by kernel_rfl) (by kernel_rfl) qlt
def qpp:Shp:=⟨[qxo],[]⟩
abbrev qsw:Ctx (Bool):=⟨31,tt,false,false,[],fu [],ge [ar _ 31 [] q1o (C:=((List ae)×qL1×Int)) (S:=Int) (fun x=>((x.1.1,x.1.2.1,x.1.2.2.1),(pe3 x.1))) q1n (CE:=Unit) (E:=Unit) (fun c e=>((()),(()))) (fun c=>()) (fun{R} c a nx dn rt=>wi c.1 c.2.1 c.2.2 a nx dn rt)],bq 31 tt [] [.tmp 4] qpp (fun x=>x.1.1)⟩
theorem qsv:CtxM Tryz.prog qsw:=gg fits az m0
theorem q6b:ax Tryz.prog qsw 0 (lc 0 Tryz.f29 75):=lp rfl qsv .z s0 (fun c a=>((c.1,c.2.1,c.2.2,a,()),(()))) (fun y=>((),()))
abbrev qh7:Mdl:=(aq (.cons (.d false (.slice ae.ty)) (.cons (.d false qT1) .nil)) [] [] 1 qpp (B:=Bool) (fun b=>((b,()),(()))) (fun a=>z8 a.1.1 a.1.2.1))
theorem qml:MdlOK Tryz.prog 29 qh7:=gf Tryz.func29 rfl qsv (.two .z (.two .z (.two (.two .z (.s 0)) .z))) (sC q6b s0)
def qsz:Shp:=⟨[jds],[]⟩
abbrev qv7:Ctx (Int):=⟨26,tt,false,false,[],fu [],ge [ar _ 26 [] q6d (C:=(qL1×(List ae)×Int)) (S:=(Int×Int)) (fun x=>((x.1.1,x.1.2.2.1,(pe3 x.1)),(x.1.2.1,(pe4 x.1)))) q6c (CE:=Unit) (E:=Int) (fun c e=>((e,()),(()))) (fun c=>()) (fun{R} c a nx dn rt=>z9 c.1 c.2.1 c.2.2 a.1 a.2 nx dn rt)],bq 26 tt [] [.tmp 4] qsz (fun x=>x.1.1)⟩
theorem qv5:CtxM Tryz.prog qv7:=gg fits az m0
theorem q8s:ax Tryz.prog qv7 0 (lc 0 Tryz.f30 75):=lp rfl qv5 (.two .z (.two .z (.two (.one (.two .z (.d [0,0,2,0,0,24,56,126,255,511] [] []))) .z))) s0 (fun c a=>((c.1,a.1,c.2.1,c.2.2,a.2,()),(()))) (fun y=>((),y.1.1))
abbrev qv6:Mdl:=(aq (.cons (.d false (.slice ae.ty)) (.cons (.d false qT1) .nil)) [] [] 1 qsz (B:=Int) (fun b=>((b,()),(()))) (fun a=>qha a.1.1 a.1.2.1))
theorem q6e:MdlOK Tryz.prog 30 qv6:=gf Tryz.func30 rfl qv5 (.two .z (.two .z (.two (.two .z (.s 0)) .z))) (sC q8s s0)
def nc:Shp:=⟨[qxo,q2j],[]⟩
abbrev jdg(rec:((qL1×(List ae)×au×aw×Int×Int×Unit)×(Unit))→Option (Bool×Int)):Ctx ((Bool×Int)):=⟨125,tt,false,false,[],fu [(55,qh8),(57,z7),(31,(aq (.cons (.d false qT1) (.cons (.d false (.slice ae.ty)) (.cons (.d false au.ty) (.cons (.d false aw.ty) (.cons (.d false qT0) (.cons (.d false qT0) .nil)))))) [] [] 2 nc (B:=(Bool×Int)) (fun b=>((b.1,b.2,()),(()))) rec))],ge [],bq 125 tt [] [.tmp 12, .tmp 13] nc (fun x=>(x.1.1,x.1.2.1))⟩
theorem jdf(rec:((qL1×(List ae)×au×aw×Int×Int×Unit)×(Unit))→Option (Bool×Int))(hrec:MdlOK Tryz.prog 31 (aq (.cons (.d false qT1) (.cons (.d false (.slice ae.ty)) (.cons (.d false au.ty) (.cons (.d false aw.ty) (.cons (.d false qT0) (.cons (.d false qT0) .nil)))))) [] [] 2 nc (B:=(Bool×Int)) (fun b=>((b.1,b.2,()),(()))) rec)):CtxM Tryz.prog (jdg rec):=gg fits az (mC qms (mC qdv (mC hrec m0)))
abbrev qv9:Mdl:=(aq (.cons (.d false qT1) (.cons (.d false (.slice ae.ty)) (.cons (.d false au.ty) (.cons (.d false aw.ty) (.cons (.d false qT0) (.cons (.d false qT0) .nil)))))) [] [] 2 nc (B:=(Bool×Int)) (fun b=>((b.1,b.2,()),(()))) (fun(a:((qL1×(List ae)×au×aw×Int×Int×Unit)×(Unit)))=>qwa a))
theorem q1u(rec:((qL1×(List ae)×au×aw×Int×Int×Unit)×(Unit))→Option (Bool×Int))(hrec:MdlOK Tryz.prog 31 (aq (.cons (.d false qT1) (.cons (.d false (.slice ae.ty)) (.cons (.d false au.ty) (.cons (.d false aw.ty) (.cons (.d false qT0) (.cons (.d false qT0) .nil)))))) [] [] 2 nc (B:=(Bool×Int)) (fun b=>((b.1,b.2,()),(()))) rec)):MdlOK Tryz.prog 31 (aq (.cons (.d false qT1) (.cons (.d false (.slice ae.ty)) (.cons (.d false au.ty) (.cons (.d false aw.ty) (.cons (.d false qT0) (.cons (.d false qT0) .nil)))))) [] [] 2 nc (B:=(Bool×Int)) (fun b=>((b.1,b.2,()),(()))) ((fun(rec:((qL1×(List ae)×au×aw×Int×Int×Unit)×(Unit))→Option (Bool×Int)) (a:((qL1×(List ae)×au×aw×Int×Int×Unit)×(Unit)))=>kf rec a.1.1 a.1.2.1 a.1.2.2.1 (pe3 a.1) (pe4 a.1) (pe5 a.1)) rec)):=gf Tryz.func31 rfl (jdf rec hrec) (.two .z (.two .z (.two .z (.two .z (.two (.two (.d [0,1,3,7,15,31,63,127,255,511,1023,2047,4095,8191,16383,32767,65535,131071,65535,327679,1048575,2097151,4194303,8388607,16777215,8388607,41943039,8388607,142606335,511705087,1048575999,2147483647,4294967295,8589934591,17179869183,34359738367,17179869183,85899345919,17179869183,292057776127,1047972020223,2147483647999,4398046511103,8796093022207] [] []) .z) (.two .z (.two (.d [0,0,0,0,8,24,56,0,0,511,1023,2047,2047,4095,16383] [] []) (.two .z (.two (.d [0,0,0,0,8,24,56,0,0,511,1023,1023,4095,8191] [] []) .z))))))))) s0
theorem q6f:MdlOK Tryz.prog 31 qv9:=jhr (B:=(Bool×Int)) (c:=qte Tryz.f31) (l:=(.cons (.d false qT1) (.cons (.d false (.slice ae.ty)) (.cons (.d false au.ty) (.cons (.d false aw.ty) (.cons (.d false qT0) (.cons (.d false qT0) .nil))))))) (objs:=[]) (kp:=[]) (k:=2) (sh:=nc) (mk:=(fun b=>((b.1,b.2,()),(())))) (F:=(fun(rec:((qL1×(List ae)×au×aw×Int×Int×Unit)×(Unit))→Option (Bool×Int)) (a:((qL1×(List ae)×au×aw×Int×Int×Unit)×(Unit)))=>kf rec a.1.1 a.1.2.1 a.1.2.2.1 (pe3 a.1) (pe4 a.1) (pe5 a.1))) Tryz.func31 (by rfl) (by kernel_rfl) (by kernel_rfl) q1u
def qso:Shp:=⟨[qxo],[]⟩
abbrev jdb:Ctx (Bool):=⟨51,tt,false,false,[],fu [(23,tj),(29,qh7),(24,oq),(30,qv6),(28,qeq),(31,qv9)],ge [],bq 51 tt [] [.tmp 8] qso (fun x=>x.1.1)⟩
theorem jda:CtxM Tryz.prog jdb:=gg fits az (mC sn (mC qml (mC nw (mC q6e (mC qfr (mC q6f m0))))))
abbrev qep:Mdl:=(aq (.cons (.d false qT1) (.cons (.d false (.slice ae.ty)) (.cons (.d false qxt.ty) (.cons (.d false aw.ty) .nil)))) [] [] 1 qso (B:=Bool) (fun b=>((b,()),(()))) (fun a=>fb a.1.1 a.1.2.1 a.1.2.2.1 (pe3 a.1)))
theorem qfo:MdlOK Tryz.prog 9 qep:=gf Tryz.func9 rfl jda (.two .z (.two (.two (.d [0,0,3,7,15,31,31,95,255,511,1023,2047,4095,4095,4095,20479,65535,131071,262143,524287,1048575,2097151,1048575,1048575,9437183,30408703,67108863,134217727] [] []) .z) (.two (.d [0,0,0,4,0,0,32,127,255,511,511,1023,4095] [] []) .z))) s0
def qvx:Shp:=⟨[(0, .d true qxt.ty),(1, .d true aw.ty),jy0],[]⟩
abbrev q02:Ctx ((qxt×aw×Int)):=⟨102,tt,false,false,[],fu [(23,tj),(25,qcx),(24,oq),(26,qhe),(28,qeq),(27,qdz),(9,qep)],ge [ar _ 102 [] q8h (C:=(qL1×(List ae)×Int×(List ae)×Int×qL1×Int×Int×Int×(List aw)×(List ab))) (S:=(Int×Int)) (fun x=>((x.1.1,x.1.2.1,x.1.2.2.1,(pe6 x.1),(pe7 x.1),x.2.1.1,x.2.1.2.1,x.2.2.1.1,x.2.2.1.2.1,x.2.2.1.2.2.1,(pe3 x.2.2.1)),((pe5 x.1),(pe8 x.1)))) q8g (CE:=(qL1×(List ae)×Int×qL1×Int×Int×Int×(List aw)×(List ab))) (E:=Int) (fun c e=>((c.1,c.2.1,c.2.2.1,(),(),e,()),(((pe3 c),(pe4 c),()),((pe5 c),(pe6 c),(pe7 c),(pf8 c),()),()))) (fun c=>(c.1,c.2.1,c.2.2.1,(pe5 c),(pe6 c),(pe7 c),(pe8 c),(pe9 c),(pf10 c))) (fun{R} c a nx dn rt=>qb2 c.1 c.2.1 c.2.2.1 (pe3 c) (pe4 c) (pe5 c) (pe6 c) (pe7 c) (pe8 c) (pe9 c) (pf10 c) a.1 a.2 nx dn rt)],bq 102 tt [] [.cell 6 28, .cell 7 32, .tmp 8] qvx (fun x=>(x.1.1,x.1.2.1,x.1.2.2.1))⟩
theorem q01:CtxM Tryz.prog q02:=gg fits az (mC sn (mC qb5 (mC nw (mC qrz (mC qfr (mC qn8 (mC qfo m0)))))))
theorem jc9:ax Tryz.prog q02 0 (lc 0 Tryz.f7 607):=lp rfl q01 .z s0 (fun c a=>((c.1,c.2.1,c.2.2.1,(),(),a.1,(pe3 c),(pe4 c),a.2,()),(((pe5 c),(pe6 c),()),((pe7 c),(pe8 c),(pe9 c),(pf10 c),()),()))) (fun y=>((y.1.1,y.1.2.1,y.1.2.2.1,y.2.1.1,y.2.1.2.1,y.2.2.1.1,y.2.2.1.2.1,y.2.2.1.2.2.1,(pe3 y.2.2.1)),(pe5 y.1)))
abbrev qpk:Mdl:=(aq (.cons (.d true qT1) (.cons (.d true (.slice ae.ty)) (.cons (.d false qT0) .nil))) [] [] 3 qvx (B:=(qxt×aw×Int)) (fun b=>((b.1,b.2.1,b.2.2,()),(()))) (fun a=>qbi a.1.1 a.1.2.1 a.1.2.2.1))
theorem qsn:MdlOK Tryz.prog 7 qpk:=gf Tryz.func7 rfl q01 (.two .z (.two .z (.two .z (.two .z (.two .z (.two (.two .z (.s 0)) (.two .z (.two .z (.two .z (.two (.d [0,1,3,7,0,16,48,112,255,0,1023] [10] []) (.two .z (.two .z (.two .z (.two (.d [0,0,1,7,15] [2,3] []) .z)))))))))))))) (sC jc9 s0)
def qnl:Shp:=⟨[qxo],[]⟩
abbrev q7a:Ctx (Bool):=⟨74,tt,false,true,[],fu [(21,qg6),(22,qnh),(7,qpk),(9,qep)],ge [],bq 74 tt [] [.tmp 0] qnl (fun x=>x.1.1)⟩
theorem q69:CtxM Tryz.prog q7a:=gg fits az (mC qrn (mC qww (mC qsn (mC qfo m0))))
abbrev qqq:Mdl:=(aq .nil [] [] 1 qnl (B:=Bool) (fun b=>((b,()),(()))) (fun a=>qio))
theorem qz9:MdlOK Tryz.prog 4 qqq:=gf Tryz.func4 rfl q69 .z s0
def qsl:Shp:=⟨[qxo],[]⟩
abbrev qeo:Ctx (Bool):=⟨115,tt,false,false,[],fu [],ge [ar _ 115 [] q5j (C:=(qL1×(List ae))) (S:=Int) (fun x=>((x.1.1,x.1.2.1),x.1.2.2.1)) q5i (CE:=(qL1×(List ae))) (E:=Unit) (fun c e=>((c.1,c.2,()),(()))) (fun c=>(c.1,c.2)) (fun{R} c a nx dn rt=>zt c.1 c.2 a nx dn rt),ar _ 115 [] q5l (C:=(qL1×(List ae)×Int×qL1×Int×Int)) (S:=Int) (fun x=>((x.1.1,x.1.2.1,x.1.2.2.1,x.2.1.1,x.2.1.2.1,x.2.1.2.2.1),(pe4 x.1))) q5k (CE:=(qL1×(List ae)×Int)) (E:=Unit) (fun c e=>((c.1,c.2.1,c.2.2,()),(()))) (fun c=>(c.1,c.2.1,c.2.2.1)) (fun{R} c a nx dn rt=>zw c.1 c.2.1 c.2.2.1 (pe3 c) (pe4 c) (pf5 c) a nx dn rt),ar _ 115 [] q5n (C:=(qL1×(List ae))) (S:=Int) (fun x=>((x.1.1,x.1.2.1),x.1.2.2.1)) q5m (CE:=Unit) (E:=Unit) (fun c e=>((()),(()))) (fun c=>()) (fun{R} c a nx dn rt=>zx c.1 c.2 a nx dn rt)],bq 115 tt [] [.tmp 4] qsl (fun x=>x.1.1)⟩
theorem qen:CtxM Tryz.prog qeo:=gg fits az m0
theorem q8c:ax Tryz.prog qeo 1 (lc 4 Tryz.f5 40087):=lp rfl qen (.two .z (.two (.one (.two (.d [0,1,0,7,15,31,63,127,255,127,1023,2047,127,4223,16383,32767,65535,131071,262143,524287,1048575,2097151,1048575,5242879,16777215,33554431,1048575,68157439,1048575,470810623,1007681535,2147483647,4294967295,8589934591] [] []) .z)) .z)) s0 (fun c a=>((c.1,c.2.1,c.2.2.1,(),a,()),(((pe3 c),(pe4 c),(pf5 c),()),()))) (fun y=>((y.1.1,y.1.2.1,y.1.2.2.1),()))
theorem q8d:ax Tryz.prog qeo 2 (lc 2 Tryz.f5 151):=lp rfl qen (.two .z (.two (.one (.two .z (.two .z (.two .z (.s 1))))) .z)) (sC q8c s0) (fun c a=>((c.1,c.2,a,()),(()))) (fun y=>((),()))
theorem q8b:ax Tryz.prog qeo 0 (lc 0 Tryz.f5 75):=lp rfl qen .z s0 (fun c a=>((c.1,c.2,a,()),(()))) (fun y=>((y.1.1,y.1.2.1),()))
abbrev qvt:Mdl:=(aq (.cons (.d false qT1) (.cons (.d false (.slice ae.ty)) .nil)) [] [] 1 qsl (B:=Bool) (fun b=>((b,()),(()))) (fun a=>qg8 a.1.1 a.1.2.1))
theorem q5o:MdlOK Tryz.prog 5 qvt:=gf Tryz.func5 rfl qen (.two .z (.two .z (.two (.two .z (.s 0)) (.two (.two .z (.s 2)) .z)))) (sC q8b (sC q8d s0))
def qpe:Shp:=⟨[jds],[]⟩
abbrev qsi:Ctx (Int):=⟨25,tt,false,false,[],fu [],ge [ar _ 25 [] q1j (C:=((List ae)×Int)) (S:=(Int×Int)) (fun x=>((x.1.1,x.1.2.1),(x.1.2.2.1,(pe3 x.1)))) q1i (CE:=Unit) (E:=Int) (fun c e=>((e,()),(()))) (fun c=>()) (fun{R} c a nx dn rt=>wh c.1 c.2 a.1 a.2 nx dn rt)],bq 25 tt [] [.tmp 4] qpe (fun x=>x.1.1)⟩
theorem qsg:CtxM Tryz.prog qsi:=gg fits az m0
theorem q5h:ax Tryz.prog qsi 0 (lc 0 Tryz.f6 75):=lp rfl qsg .z s0 (fun c a=>((c.1,c.2,a.1,a.2,()),(()))) (fun y=>((),y.1.1))
abbrev qsh:Mdl:=(aq (.cons (.d false (.slice ae.ty)) (.cons (.d false qT0) .nil)) [] [] 1 qpe (B:=Int) (fun b=>((b,()),(()))) (fun a=>qem a.1.1 a.1.2.1))
theorem q1k:MdlOK Tryz.prog 6 qsh:=gf Tryz.func6 rfl qsg (.two .z (.two .z (.two (.two .z (.s 0)) .z))) (sC q5h s0)
def qfp:Shp:=⟨[jds,q2j],[]⟩
abbrev qvz:Ctx ((Int×Int)):=⟨19,tt,false,false,[],fu [(23,tj),(25,qcx),(24,oq)],ge [],bq 19 tt [] [.tmp 4, .tmp 5] qfp (fun x=>(x.1.1,x.1.2.1))⟩
theorem qvy:CtxM Tryz.prog qvz:=gg fits az (mC sn (mC qb5 (mC nw m0)))
abbrev qg9:Mdl:=(aq (.cons (.d false qT1) (.cons (.d false (.slice ae.ty)) .nil)) [] [] 2 qfp (B:=(Int×Int)) (fun b=>((b.1,b.2,()),(()))) (fun a=>qbj a.1.1 a.1.2.1))
theorem qro:MdlOK Tryz.prog 8 qg9:=gf Tryz.func8 rfl qvy .z s0
def qpl:Shp:=⟨[qxo,q2j,jy0],[]⟩
abbrev q8j:Ctx ((Bool×Int×Int)):=⟨29,tt,false,false,[],fu [(23,tj),(29,qh7),(24,oq)],ge [],bq 29 tt [] [.tmp 6, .tmp 7, .tmp 8] qpl (fun x=>(x.1.1,x.1.2.1,x.1.2.2.1))⟩
theorem q8i:CtxM Tryz.prog q8j:=gg fits az (mC sn (mC qml (mC nw m0)))
abbrev qsp:Mdl:=(aq (.cons (.d false qT1) (.cons (.d false (.slice ae.ty)) (.cons (.d false qxt.ty) .nil))) [] [] 3 qpl (B:=(Bool×Int×Int)) (fun b=>((b.1,b.2.1,b.2.2,()),(()))) (fun a=>qlq a.1.1 a.1.2.1 a.1.2.2.1))
theorem q1m:MdlOK Tryz.prog 10 qsp:=gf Tryz.func10 rfl q8i .z s0
def qvs:Shp:=⟨[jds],[]⟩
abbrev q0y:Ctx (Int):=⟨26,tt,false,false,[],fu [],ge [ar _ 26 [] q79 (C:=((List ae)×qL1)) (S:=(Int×Int)) (fun x=>((x.1.1,x.1.2.1),(x.1.2.2.1,(pe3 x.1)))) q78 (CE:=Unit) (E:=Int) (fun c e=>((e,()),(()))) (fun c=>()) (fun{R} c a nx dn rt=>qbz c.1 c.2 a.1 a.2 nx dn rt)],bq 26 tt [] [.tmp 4] qvs (fun x=>x.1.1)⟩
theorem q0w:CtxM Tryz.prog q0y:=gg fits az m0
theorem jc2:ax Tryz.prog q0y 0 (lc 0 Tryz.f11 75):=lp rfl q0w (.two .z (.two (.one (.d [0,0,0,6,14,0,0,96,224,480,1022,2047,4095] [] [])) .z)) s0 (fun c a=>((c.1,c.2,a.1,a.2,()),(()))) (fun y=>((),y.1.1))
abbrev q0x:Mdl:=(aq (.cons (.d false (.slice ae.ty)) (.cons (.d false qT1) .nil)) [] [] 1 qvs (B:=Int) (fun b=>((b,()),(()))) (fun a=>qln a.1.1 a.1.2.1))
theorem q8a:MdlOK Tryz.prog 11 q0x:=gf Tryz.func11 rfl q0w (.two .z (.two .z (.two (.two .z (.s 0)) .z))) (sC jc2 s0)
def ql9:Shp:=⟨[qxo],[]⟩
abbrev q3d:Ctx (Bool):=⟨6,tt,false,false,[],fu [],ge [],bq 6 tt [] [.tmp 2] ql9 (fun x=>x.1.1)⟩
theorem q3c:CtxM Tryz.prog q3d:=gg fits az m0
abbrev qoi:Mdl:=(aq (.cons (.d false qT0) .nil) [] [] 1 ql9 (B:=Bool) (fun b=>((b,()),(()))) (fun a=>qbw a.1.1))
theorem qx2:MdlOK Tryz.prog 58 qoi:=gf Tryz.func58 rfl q3c .z s0
def qgx:Shp:=⟨[jds],[]⟩
abbrev qx1:Ctx (Int):=⟨20,tt,false,false,[],fu [(58,qoi)],ge [],bq 20 tt [] [.tmp 4] qgx (fun x=>x.1.1)⟩
theorem qx0:CtxM Tryz.prog qx1:=gg fits az (mC qx2 m0)
abbrev qit:Mdl:=(aq (.cons (.d false qT0) (.cons (.d false qT0) .nil)) [] [] 1 qgx (B:=Int) (fun b=>((b,()),(()))) (fun a=>we a.1.1 a.1.2.1))
theorem qtf:MdlOK Tryz.prog 32 qit:=gf Tryz.func32 rfl qx0 .z s0
def wa:Shp:=⟨[jds],[]⟩
abbrev yo:Ctx (Int):=⟨36,tt,false,false,[],fu [(32,qit)],ge [ar _ 36 [] qgu (C:=(qL1×qL1×qL1×Int)) (S:=Int) (fun x=>((x.1.1,x.1.2.1,x.1.2.2.1,(pe3 x.1)),(pe4 x.1))) qgt (CE:=(qL1×qL1)) (E:=Unit) (fun c e=>((c.1,c.2,()),(()))) (fun c=>(c.1,c.2.1)) (fun{R} c a nx dn rt=>ji c.1 c.2.1 c.2.2.1 c.2.2.2 a nx dn rt)],bq 36 tt [] [.tmp 4] wa (fun x=>x.1.1)⟩
theorem ym:CtxM Tryz.prog yo:=gg fits az (mC qtf m0)
theorem qik:ax Tryz.prog yo 0 (lc 0 Tryz.f12 37):=lp rfl ym .z s0 (fun c a=>((c.1,c.2.1,c.2.2.1,c.2.2.2,a,()),(()))) (fun y=>((y.1.1,y.1.2.1),()))
abbrev yn:Mdl:=(aq (.cons (.d false qT1) (.cons (.d false qT1) .nil)) [] [] 1 wa (B:=Int) (fun b=>((b,()),(()))) (fun a=>ln a.1.1 a.1.2.1))
theorem qgv:MdlOK Tryz.prog 12 yn:=gf Tryz.func12 rfl ym (.two .z (.two (.two .z (.s 0)) .z)) (sC qik s0)
def qmj:Shp:=⟨[(0, .d true Program.ty),q2j],[]⟩
abbrev q5v:Ctx ((Program×Int)):=⟨31,tt,false,false,[],fu [(23,tj),(28,qeq),(33,qfs)],ge [],bq 31 tt [] [.cell 4 45, .tmp 5] qmj (fun x=>(x.1.1,x.1.2.1))⟩
theorem q5u:CtxM Tryz.prog q5v:=gg fits az (mC sn (mC qfr (mC qjn m0)))
abbrev qpm:Mdl:=(aq (.cons (.d false qT1) (.cons (.d false (.slice ae.ty)) .nil)) [] [] 2 qmj (B:=(Program×Int)) (fun b=>((b.1,b.2,()),(()))) (fun a=>qh5 a.1.1 a.1.2.1))
theorem qyt:MdlOK Tryz.prog 13 qpm:=gf Tryz.func13 rfl q5u .z s0
def q46:Shp:=⟨[jdq],[]⟩
abbrev jl8:Ctx (ab):=⟨5,tt,false,false,[],fu [],ge [],bq 5 tt [] [.cell 2 49] q46 (fun x=>x.1.1)⟩
theorem jl7:CtxM Tryz.prog jl8:=gg fits az m0
abbrev qq9:Mdl:=(aq (.cons (.d false qT0) .nil) [] [] 1 q46 (B:=ab) (fun b=>((b,()),(()))) (fun a=>o7 a.1.1))
theorem qpc:MdlOK Tryz.prog 17 qq9:=gf Tryz.func17 rfl jl7 .z s0
def qmy:Shp:=⟨[jdq,q2j],[]⟩
abbrev q6n:Ctx ((ab×Int)):=⟨46,tt,false,false,[],fu [(34,qah),(37,vk),(38,qdo),(39,qf9),(40,qbb)],ge [],bq 46 tt [] [.cell 4 49, .tmp 5] qmy (fun x=>(x.1.1,x.1.2.1))⟩
theorem q6m:CtxM Tryz.prog q6n:=gg fits az (mC qbk (mC wl (mC qhh (mC qj5 (mC xq m0)))))
abbrev qp5:Mdl:=(aq (.cons (.d false Program.ty) (.cons (.d false (.slice ab.ty)) .nil)) [] [] 2 qmy (B:=(ab×Int)) (fun b=>((b.1,b.2,()),(()))) (fun a=>qb8 a.1.1 a.1.2.1))
theorem qzg:MdlOK Tryz.prog 18 qp5:=gf Tryz.func18 rfl q6m .z s0
def q0h:Shp:=⟨[jds,q2j],[]⟩
abbrev jg3:Ctx ((Int×Int)):=⟨22,tt,false,false,[],fu [(44,xr)],ge [],bq 22 tt [] [.tmp 2, .tmp 3] q0h (fun x=>(x.1.1,x.1.2.1))⟩
theorem jg2:CtxM Tryz.prog jg3:=gg fits az (mC u5 m0)
abbrev q3o:Mdl:=(aq (.cons (.d false ab.ty) .nil) [] [] 2 q0h (B:=(Int×Int)) (fun b=>((b.1,b.2,()),(()))) (fun a=>qqz a.1.1))
theorem jbu:MdlOK Tryz.prog 19 q3o:=gf Tryz.func19 rfl jg2 .z s0
def qvl:Shp:=⟨[jdq,q2j],[]⟩
abbrev ya:Ctx ((ab×Int)):=⟨59,tt,false,false,[],fu [],ge [ar _ 59 [] q7v (C:=(Int×Int×Int×Int)) (S:=(Int×Int)) (fun x=>((x.1.1,x.1.2.1,x.2.1.1,x.2.1.2.1),((pe3 x.1),(pe4 x.1)))) q7u (CE:=(Int×Int×Int×Int)) (E:=Int) (fun c e=>((c.1,c.2.1,(),e,()),((c.2.2.1,c.2.2.2,()),()))) (fun c=>(c.1,c.2.1,c.2.2.1,c.2.2.2)) (fun{R} c a nx dn rt=>vb c.1 c.2.1 c.2.2.1 c.2.2.2 a.1 a.2 nx dn rt),lg _ 59 [] q7x (A:=(Int×Int×Bool×Int×Int)) (fun x=>(x.1.2.1,x.1.2.2.1,(pe3 x.1),x.2.1.1,x.2.1.2.1)) q7w (CE:=(Int×Int×Int×Int)) (E:=Unit) (fun c e=>(((),c.1,c.2.1,()),((c.2.2.1,c.2.2.2,()),()))) (fun c=>(c.1,c.2.1,(pe3 c),(pf4 c))) (fun{R} c dn rt=>ie c.1 c.2.1 c.2.2.1 (pe3 c) (pf4 c) dn rt),lg _ 59 [] q7z (A:=(Int×Int×Int×Int)) (fun x=>(x.1.2.1,x.1.2.2.1,x.2.1.1,x.2.1.2.1)) q7y (CE:=Unit) (E:=Unit) (fun c e=>((()),(()))) (fun c=>()) (fun{R} c dn rt=>qby c.1 c.2.1 c.2.2.1 c.2.2.2 dn rt),lg _ 59 [] q71 (A:=(Int×Int×Int×Int×Int×Int)) (fun x=>(x.1.1,x.1.2.1,(pe3 x.1),(pe4 x.1),x.2.1.1,x.2.1.2.1)) q70 (CE:=Unit) (E:=Unit) (fun c e=>((()),(()))) (fun c=>()) (fun{R} c dn rt=>qh0 c.1 c.2.1 c.2.2.1 (pe3 c) (pe4 c) (pf5 c) dn rt),lg _ 59 [] q73 (A:=(Int×Int×Int×Int×Int)) (fun x=>(x.1.1,x.1.2.1,(pe3 x.1),x.2.1.1,x.2.1.2.1)) q72 (CE:=Unit) (E:=Unit) (fun c e=>((()),(()))) (fun c=>()) (fun{R} c dn rt=>qh1 c.1 c.2.1 c.2.2.1 (pe3 c) (pf4 c) dn rt)],bq 59 tt [] [.cell 4 49, .tmp 5] qvl (fun x=>(x.1.1,x.1.2.1))⟩
theorem x0:CtxM Tryz.prog ya:=gg fits az m0
theorem jcu:ax Tryz.prog ya 1 (jc Tryz.f114 7167):=jn rfl x0 .z s0 (fun c=>(((),c.1,c.2.1,c.2.2.1,()),(((pe3 c),(pf4 c),()),()))) (fun y=>((y.1.2.1,y.1.2.2.1,y.2.1.1,y.2.1.2.1),()))
theorem jcv:ax Tryz.prog ya 2 (jc Tryz.f114 4095):=jn rfl x0 .z s0 (fun c=>(((),c.1,c.2.1,()),((c.2.2.1,c.2.2.2,()),()))) (fun y=>((),()))
theorem jct:ax Tryz.prog ya 0 (lc 0 Tryz.f114 575):=lp rfl x0 (.two .z (.one (.d [0,0,0,6,3,31] [] []))) s0 (fun c a=>((c.1,c.2.1,(),a.1,a.2,()),((c.2.2.1,c.2.2.2,()),()))) (fun y=>((y.1.1,y.1.2.1,y.2.1.1,y.2.1.2.1),(pe3 y.1)))
theorem jcw:ax Tryz.prog ya 3 (jc Tryz.f114 127):=jn rfl x0 (.two (.s 0) (.two .z (.two .z (.two .z (.two (.two .z (.s 1)) (.s 2)))))) (sC jct (sC jcu (sC jcv s0))) (fun c=>((c.1,c.2.1,(),c.2.2.1,(pe3 c),()),(((pe4 c),(pf5 c),()),()))) (fun y=>((),()))
theorem jcx:ax Tryz.prog ya 4 (jc Tryz.f114 31):=jn rfl x0 (.two .z (.two .z (.s 3))) (sC jcw s0) (fun c=>((c.1,c.2.1,(),c.2.2.1,()),(((pe3 c),(pf4 c),()),()))) (fun y=>((),()))
abbrev qg7:Mdl:=(aq (.cons (.d false qT0) (.cons (.d false qT0) .nil)) [] [] 2 qvl (B:=(ab×Int)) (fun b=>((b.1,b.2,()),(()))) (fun a=>w9 a.1.1 a.1.2.1))
theorem qh2:MdlOK Tryz.prog 114 qg7:=gf Tryz.func114 rfl x0 (.two .z (.two .z (.two .z (.two .z (.s 4))))) (sC jcx s0)
def qsc:Shp:=⟨[qxo],[]⟩
abbrev jc1:Ctx (Bool):=⟨34,tt,false,false,[],fu [(114,qg7)],ge [],bq 34 tt [] [.tmp 2] qsc (fun x=>x.1.1)⟩
theorem jc0:CtxM Tryz.prog jc1:=gg fits az (mC qh2 m0)
abbrev zl:Mdl:=(aq (.cons (.d false ab.ty) .nil) [] [] 1 qsc (B:=Bool) (fun b=>((b,()),(()))) (fun a=>ls a.1.1))
theorem zm:MdlOK Tryz.prog 112 zl:=gf Tryz.func112 rfl jc0 .z s0
def qjg:Shp:=⟨[qxo],[]⟩
abbrev qmh:Ctx (Bool):=⟨16,tt,false,false,[],fu [(112,zl)],ge [ar _ 16 [] qvo (C:=(List ab)) (S:=Int) (fun x=>(x.1.1,x.1.2.1)) qvn (CE:=Unit) (E:=Unit) (fun c e=>((()),(()))) (fun c=>()) (fun{R} c a nx dn rt=>mw c a nx dn rt)],bq 16 tt [] [.tmp 2] qjg (fun x=>x.1.1)⟩
theorem qmf:CtxM Tryz.prog qmh:=gg fits az (mC zm m0)
theorem qyn:ax Tryz.prog qmh 0 (lc 0 Tryz.f111 37):=lp rfl qmf .z s0 (fun c a=>((c,a,()),(()))) (fun y=>((),()))
abbrev qmg:Mdl:=(aq (.cons (.d false (.slice ab.ty)) .nil) [] [] 1 qjg (B:=Bool) (fun b=>((b,()),(()))) (fun a=>sk a.1.1))
theorem qvp:MdlOK Tryz.prog 111 qmg:=gf Tryz.func111 rfl qmf (.two .z (.two (.two .z (.s 0)) .z)) (sC qyn s0)
def q0t:Shp:=⟨[jdq,q2j],[]⟩
abbrev jhv:Ctx ((ab×Int)):=⟨28,tt,false,false,[],fu [(112,zl),(114,qg7)],ge [],bq 28 tt [] [.cell 4 49, .tmp 5] q0t (fun x=>(x.1.1,x.1.2.1))⟩
theorem jhu:CtxM Tryz.prog jhv:=gg fits az (mC zm (mC qh2 m0))
abbrev qtq:Mdl:=(aq (.cons (.d false ab.ty) (.cons (.d false ab.ty) .nil)) [] [] 2 q0t (B:=(ab×Int)) (fun b=>((b.1,b.2,()),(()))) (fun a=>qje a.1.1 a.1.2.1))
theorem qvm:MdlOK Tryz.prog 89 qtq:=gf Tryz.func89 rfl jhu .z s0
def q0r:Shp:=⟨[jdq,q2j],[]⟩
abbrev jht:Ctx ((ab×Int)):=⟨34,tt,false,false,[],fu [(112,zl),(114,qg7)],ge [],bq 34 tt [] [.cell 4 49, .tmp 5] q0r (fun x=>(x.1.1,x.1.2.1))⟩
theorem jhs:CtxM Tryz.prog jht:=gg fits az (mC zm (mC qh2 m0))
abbrev qll:Mdl:=(aq (.cons (.d false ab.ty) (.cons (.d false ab.ty) .nil)) [] [] 2 q0r (B:=(ab×Int)) (fun b=>((b.1,b.2,()),(()))) (fun a=>qe0 a.1.1 a.1.2.1))
theorem qlm:MdlOK Tryz.prog 90 qll:=gf Tryz.func90 rfl jhs .z s0
def q0s:Shp:=⟨[jdq,q2j],[]⟩
abbrev q44:Ctx ((ab×Int)):=⟨67,tt,false,false,[],fu [(111,qmg),(17,qq9),(89,qtq),(90,qll)],ge [ar _ 67 [] jcr (C:=((List ab)×(List ab)×Int×Int)) (S:=(Int×Int×Int)) (fun x=>((x.1.1,x.1.2.1,x.2.1.1,x.2.1.2.1),((pe4 x.1),x.2.2.1.1,x.2.2.1.2.1))) jcq (CE:=(Int×Int)) (E:=(Int×Int)) (fun c e=>(((),(),()),((c.1,c.2,()),(e.1,e.2,()),()))) (fun c=>(c.2.2.1,c.2.2.2)) (fun{R} c a nx dn rt=>zk c.1 c.2.1 c.2.2.1 c.2.2.2 a.1 a.2.1 a.2.2 nx dn rt)],bq 67 tt [] [.cell 4 49, .tmp 5] q0s (fun x=>(x.1.1,x.1.2.1))⟩
theorem q42:CtxM Tryz.prog q44:=gg fits az (mC qvp (mC qpc (mC qvm (mC qlm m0))))
theorem jfn:ax Tryz.prog q44 0 (lc 0 Tryz.f87 607):=lp rfl q42 (.two .z (.two (.one (.two (.d [0,0,3,7,0,0,48,112,255,511,1023,1023,0,6143,16383] [13] []) .z)) .z)) s0 (fun c a=>((c.1,c.2.1,(),(),a.1,()),((c.2.2.1,c.2.2.2,()),(a.2.1,a.2.2,()),()))) (fun y=>((y.2.1.1,y.2.1.2.1),(y.2.2.1.1,y.2.2.1.2.1)))
abbrev q43:Mdl:=(aq (.cons (.d false (.slice ab.ty)) (.cons (.d false (.slice ab.ty)) .nil)) [] [] 2 q0s (B:=(ab×Int)) (fun b=>((b.1,b.2,()),(()))) (fun a=>qq8 a.1.1 a.1.2.1))
theorem jcs:MdlOK Tryz.prog 87 q43:=gf Tryz.func87 rfl q42 (.two .z (.two .z (.two .z (.two .z (.two .z (.two (.two .z (.s 0)) .z)))))) (sC jfn s0)
def q0u:Shp:=⟨[jdq],[]⟩
abbrev jhx:Ctx (ab):=⟨9,tt,false,false,[],fu [],ge [],bq 9 tt [] [.cell 2 49] q0u (fun x=>x.1.1)⟩
theorem jhw:CtxM Tryz.prog jhx:=gg fits az m0
abbrev q45:Mdl:=(aq (.cons (.d false ab.ty) .nil) [] [] 1 q0u (B:=ab) (fun b=>((b,()),(()))) (fun a=>qym a.1.1))
theorem jcy:MdlOK Tryz.prog 113 q45:=gf Tryz.func113 rfl jhw .z s0
def q0v:Shp:=⟨[jdq,q2j],[]⟩
abbrev jhz:Ctx ((ab×Int)):=⟨21,tt,false,false,[],fu [(112,zl),(113,q45),(90,qll)],ge [],bq 21 tt [] [.cell 4 49, .tmp 5] q0v (fun x=>(x.1.1,x.1.2.1))⟩
theorem jhy:CtxM Tryz.prog jhz:=gg fits az (mC zm (mC jcy (mC qlm m0)))
abbrev q47:Mdl:=(aq (.cons (.d false ab.ty) (.cons (.d false ab.ty) .nil)) [] [] 2 q0v (B:=(ab×Int)) (fun b=>((b.1,b.2,()),(()))) (fun a=>qra a.1.1 a.1.2.1))
theorem jcz:MdlOK Tryz.prog 88 q47:=gf Tryz.func88 rfl jhy (.two .z (.two .z (.two (.d [0,0,2,7,15,15,63,127] [6] []) .z))) s0
def qsf:Shp:=⟨[jdq,j93],[]⟩
abbrev zr:Ctx ((ab×Bool)):=⟨120,tt,false,false,[],fu [(17,qq9),(87,q43),(88,q47),(89,qtq),(90,qll)],ge [ar _ 120 [] q49 (C:=(qL1×(List ae)×qL1×qL1×(List ab)×Int×Int)) (S:=(Int×(List ab))) (fun x=>((x.1.1,x.1.2.1,x.1.2.2.1,(pe3 x.1),(pe4 x.1),x.2.1.1,x.2.1.2.1),((pe7 x.1),x.2.2.1))) q48 (CE:=((List ae)×qL1×qL1×(List ab)×Int×Int)) (E:=(List ab)) (fun c e=>((c.1,c.2.1,c.2.2.1,(pe3 c),(),(),()),(((pe4 c),(pf5 c),()),e,()))) (fun c=>(c.2.1,c.2.2.1,(pe3 c),(pe4 c),(pe5 c),(pf6 c))) (fun{R} c a nx dn rt=>zo c.1 c.2.1 c.2.2.1 (pe3 c) (pe4 c) (pe5 c) (pf6 c) a.1 a.2 nx dn rt),ar _ 120 [] q5b (C:=((List ae)×qL1×qL1×(List ab)×Int×Int×Int×Int×Int)) (S:=(Int×Int×Int)) (fun x=>((x.1.1,x.1.2.1,x.1.2.2.1,(pe3 x.1),(pe6 x.1),x.2.1.1,x.2.1.2.1,x.2.2.1.1,x.2.2.1.2.1),((pe8 x.1),(pe3 x).1,(pe3 x).2.1))) q5a (CE:=((List ae)×qL1×qL1×(List ab)×Int×Int×Int×Int×Int)) (E:=(Int×Int)) (fun c e=>((c.1,c.2.1,c.2.2.1,(pe3 c),(),(),(pe4 c),(),()),(((pe5 c),(pe6 c),()),((pe7 c),(pf8 c),()),(e.1,e.2,()),()))) (fun c=>(c.1,c.2.1,c.2.2.1,(pe3 c),(pe4 c),(pe5 c),(pe6 c),(pe7 c),(pf8 c))) (fun{R} c a nx dn rt=>zp c.1 c.2.1 c.2.2.1 (pe3 c) (pe4 c) (pe5 c) (pe6 c) (pe7 c) (pf8 c) a.1 a.2.1 a.2.2 nx dn rt),lg _ 120 [] q5f (A:=((List ae)×qL1×qL1×(List ab)×Int×Int×Int×Int×Int×Int×Int×Int)) (fun x=>(x.1.1,x.1.2.1,x.1.2.2.1,(pe3 x.1),(pe6 x.1),(pe8 x.1),x.2.1.1,x.2.1.2.1,x.2.2.1.1,x.2.2.1.2.1,(pe3 x).1,(pe3 x).2.1)) q5e (CE:=((List ae)×qL1×qL1×(List ab)×Int×Int×Int)) (E:=(Int×Int)) (fun c e=>((c.1,c.2.1,c.2.2.1,(pe3 c),(),(),(pe4 c),()),(((pe5 c),(pf6 c),()),(e.1,e.2,()),()))) (fun c=>(c.1,c.2.1,c.2.2.1,(pe3 c),(pe4 c),(pe6 c),(pe7 c))) (fun{R} c dn rt=>qfl c.1 c.2.1 c.2.2.1 (pe3 c) (pe4 c) (pe5 c) (pe6 c) (pe7 c) (pe8 c) (pe9 c) (pe10 c) (pf11 c) dn rt),ar _ 120 [] q5d (C:=((List ae)×qL1×qL1×(List ab)×Int×Int)) (S:=(Int×Int×Int)) (fun x=>((x.1.1,x.1.2.1,x.1.2.2.1,(pe3 x.1),x.2.1.1,x.2.1.2.1),((pe6 x.1),x.2.2.1.1,x.2.2.1.2.1))) q5c (CE:=(Int×Int)) (E:=(Int×Int)) (fun c e=>(((),(),()),((c.1,c.2,()),(e.1,e.2,()),()))) (fun c=>((pe4 c),(pf5 c))) (fun{R} c a nx dn rt=>zq c.1 c.2.1 c.2.2.1 (pe3 c) (pe4 c) (pf5 c) a.1 a.2.1 a.2.2 nx dn rt)],bq 120 tt [] [.cell 10 49, .tmp 11] qsf (fun x=>(x.1.1,x.1.2.1))⟩
theorem zn:CtxM Tryz.prog zr:=gg fits az (mC qpc (mC jcs (mC jcz (mC qvm (mC qlm m0)))))
theorem q76:ax Tryz.prog zr 2 (jc Tryz.f45 127583):=jn rfl zn (.two (.d [0,0,2,7,15,31,31,0,191,511] [8] []) .z) s0 (fun c=>((c.1,c.2.1,c.2.2.1,(pe3 c),(),(),(pe4 c),(),(pe5 c),()),(((pe6 c),(pe7 c),()),((pe8 c),(pe9 c),()),((pe10 c),(pf11 c),()),()))) (fun y=>((y.1.1,y.1.2.1,y.1.2.2.1,(pe3 y.1),(pe6 y.1),y.2.1.1,y.2.1.2.1),(y.2.2.1.1,y.2.2.1.2.1)))
theorem q75:ax Tryz.prog zr 1 (lc 4 Tryz.f45 152159):=lp rfl zn (.two .z (.two (.one (.two (.d [0,0,0,0,12,28,60,0,252,508,1022,2046,4095,8191,16383,16383,0,98303,262143] [17] []) .z)) .z)) s0 (fun c a=>((c.1,c.2.1,c.2.2.1,(pe3 c),(),(),(pe4 c),(),a.1,()),(((pe5 c),(pe6 c),()),((pe7 c),(pf8 c),()),(a.2.1,a.2.2,()),()))) (fun y=>((y.1.1,y.1.2.1,y.1.2.2.1,(pe3 y.1),(pe6 y.1),y.2.1.1,y.2.1.2.1,y.2.2.1.1,y.2.2.1.2.1),((pe3 y).1,(pe3 y).2.1)))
theorem q77:ax Tryz.prog zr 3 (lc 2 Tryz.f45 607):=lp rfl zn (.two .z (.two (.one (.two .z (.two (.two .z (.s 1)) (.two .z (.two .z (.s 2)))))) .z)) (sC q75 (sC q76 s0)) (fun c a=>((c.1,c.2.1,c.2.2.1,(pe3 c),(),(),a.1,()),(((pe4 c),(pf5 c),()),(a.2.1,a.2.2,()),()))) (fun y=>((y.2.1.1,y.2.1.2.1),(y.2.2.1.1,y.2.2.1.2.1)))
theorem q74:ax Tryz.prog zr 0 (lc 0 Tryz.f45 75):=lp rfl zn .z s0 (fun c a=>((c.1,c.2.1,c.2.2.1,(pe3 c),(pe4 c),(),(),a.1,()),(((pe5 c),(pf6 c),()),a.2,()))) (fun y=>((y.1.1,y.1.2.1,y.1.2.2.1,(pe3 y.1),y.2.1.1,y.2.1.2.1),y.2.2.1))
abbrev qvq:Mdl:=(aq (.cons (.d false qT1) (.cons (.d false (.slice ae.ty)) (.cons (.d false qT1) (.cons (.d false qT1) (.cons (.d false (.slice ab.ty)) .nil))))) [] [] 2 qsf (B:=(ab×Bool)) (fun b=>((b.1,b.2,()),(()))) (fun a=>qcu a.1.1 a.1.2.1 a.1.2.2.1 (pe3 a.1) (pe4 a.1)))
theorem q5g:MdlOK Tryz.prog 45 qvq:=gf Tryz.func45 rfl zn (.two .z (.two .z (.two (.two .z (.s 0)) (.two .z (.two .z (.two (.two .z (.s 3)) .z)))))) (sC q74 (sC q77 s0))
def qqs:Shp:=⟨[qxo],[]⟩
abbrev qs8:Ctx (Bool):=⟨38,tt,false,false,[],fu [(45,qvq)],ge [ar _ 38 [] q2h (C:=(qL1×(List ae)×(List ab)×(List ae)×Int)) (S:=(Int×qL1×qL1)) (fun x=>((x.1.1,x.1.2.1,x.1.2.2.1,(pe5 x.1),(pe6 x.1)),((pe7 x.1),x.2.1,x.2.2.1))) q2g (CE:=(qL1×(List ae)×(List ab))) (E:=(qL1×qL1)) (fun c e=>((c.1,c.2.1,c.2.2,(),(),()),(e.1,e.2,()))) (fun c=>(c.1,c.2.1,c.2.2.1)) (fun{R} c a nx dn rt=>wu c.1 c.2.1 c.2.2.1 (pe3 c) (pf4 c) a.1 a.2.1 a.2.2 nx dn rt)],bq 38 tt [] [.tmp 6] qqs (fun x=>x.1.1)⟩
theorem qs6:CtxM Tryz.prog qs8:=gg fits az (mC q5g m0)
theorem q7b:ax Tryz.prog qs8 0 (lc 0 Tryz.f20 75):=lp rfl qs6 (.two .z (.two .z (.two (.one (.two .z (.d [0,0,3,0,0,16,48,127,255,511] [2,7,8,9] []))) .z))) s0 (fun c a=>((c.1,c.2.1,c.2.2.1,(),(),(pe3 c),(pf4 c),a.1,()),(a.2.1,a.2.2,()))) (fun y=>((y.1.1,y.1.2.1,y.1.2.2.1),(y.2.1,y.2.2.1)))
abbrev qs7:Mdl:=(aq (.cons (.d false qT1) (.cons (.d false (.slice ae.ty)) (.cons (.d false (.slice ab.ty)) .nil))) [] [] 1 qqs (B:=Bool) (fun b=>((b,()),(()))) (fun a=>qas a.1.1 a.1.2.1 a.1.2.2.1))
theorem q2i:MdlOK Tryz.prog 20 qs7:=gf Tryz.func20 rfl qs6 (.two .z (.two .z (.two (.two .z (.s 0)) .z))) (sC q7b s0)
def qkl:Shp:=⟨[qxo],[]⟩
abbrev wq:Ctx (Bool):=⟨264,tt,false,false,[],fu [(4,qqq),(5,qvt),(6,qsh),(7,qpk),(8,qg9),(9,qep),(10,qsp),(11,q0x),(12,yn),(13,qpm),(14,qfz),(15,qfy),(17,qq9),(16,qi0),(18,qp5),(19,q3o),(20,qs7)],ge [lg _ 264 [] qxc (A:=(qL1×(List ae)×qL1×Bool×qL1×Int×Int×Int×(List aw)×(List ab))) (fun x=>(x.1.1,x.1.2.1,x.1.2.2.1,(pe5 x.1),x.2.1.1,x.2.1.2.1,x.2.2.1.1,x.2.2.1.2.1,x.2.2.1.2.2.1,(pe3 x.2.2.1))) qxb (CE:=(qL1×(List ae)×qL1×Int)) (E:=Unit) (fun c e=>((c.1,c.2.1,(),()),((c.2.2.1,c.2.2.2,()),()))) (fun c=>(c.1,c.2.1,(pe4 c),(pe5 c))) (fun{R} c dn rt=>qaq c.1 c.2.1 c.2.2.1 (pe3 c) (pe4 c) (pe5 c) (pe6 c) (pe7 c) (pe8 c) (pf9 c) dn rt),ar _ 264 [] qxa (C:=(qL1×(List ae)×qL1×Int×qL1×Int×Int×(List ab)×(List ab)×(List ab)×Int×Int)) (S:=(Int×Int×(List ab))) (fun x=>((x.1.1,x.1.2.1,(pe6 x.1),(pe7 x.1),x.2.1.1,x.2.1.2.1,x.2.2.1.1,x.2.2.1.2.1,x.2.2.1.2.2.1,(pe3 x.2.2.1),(pe4 x.2.2.1),(pe5 x.2.2.1)),((pe5 x.1),(pe8 x.1),(pe3 x)))) qw9 (CE:=(qL1×(List ae)×qL1×Int×Int×(List ab)×(List ab)×(List ab)×Int×Int)) (E:=(List ab)) (fun c e=>((c.1,c.2.1,(),(),(),()),((c.2.2.1,(pe3 c),()),((pe4 c),(pe5 c),(pe6 c),(pe7 c),(pe8 c),(pf9 c),()),e,()))) (fun c=>(c.1,c.2.1,(pe4 c),(pe5 c),(pe6 c),(pe7 c),(pe8 c),(pe9 c),(pe10 c),(pf11 c))) (fun{R} c a nx dn rt=>rf c.1 c.2.1 c.2.2.1 (pe3 c) (pe4 c) (pe5 c) (pe6 c) (pe7 c) (pe8 c) (pe9 c) (pe10 c) (pf11 c) a.1 a.2.1 a.2.2 nx dn rt),lg _ 264 [] qxe (A:=(qL1×(List ae)×qL1×Int)) (fun x=>(x.1.1,x.1.2.1,x.2.1.1,x.2.1.2.1)) qxd (CE:=Unit) (E:=Unit) (fun c e=>((()),(()))) (fun c=>()) (fun{R} c dn rt=>qar c.1 c.2.1 c.2.2.1 c.2.2.2 dn rt)],bq 264 tt [] [.tmp 6] qkl (fun x=>x.1.1)⟩
theorem wo:CtxM Tryz.prog wq:=gg fits az (mC qz9 (mC q5o (mC q1k (mC qsn (mC qro (mC qfo (mC q1m (mC q8a (mC qgv (mC qyt (mC qjs (mC qjr (mC qpc (mC qg0 (mC qzg (mC jbu (mC q2i m0)))))))))))))))))
theorem qz7:ax Tryz.prog wq 1 (lc 0 Tryz.f3 2490367):=lp rfl wo .z s0 (fun c a=>((c.1,c.2.1,(),(),(),a.1,c.2.2.1,(pe3 c),a.2.1,()),(((pe4 c),(pe5 c),()),((pe6 c),(pe7 c),(pe8 c),(pe9 c),(pe10 c),(pf11 c),()),a.2.2,()))) (fun y=>((y.1.1,y.1.2.1,y.2.1.1,y.2.1.2.1,y.2.2.1.1,y.2.2.1.2.1,y.2.2.1.2.2.1,(pe3 y.2.2.1),(pe4 y.2.2.1),(pe5 y.2.2.1)),(pe3 y)))
theorem qz6:ax Tryz.prog wq 0 (jc Tryz.f3 959):=jn rfl wo .z s0 (fun c=>((c.1,c.2.1,c.2.2.1,(),(),(pe3 c),()),(((pe4 c),(pe5 c),()),((pe6 c),(pe7 c),(pe8 c),(pf9 c),()),()))) (fun y=>((y.1.1,y.1.2.1,y.2.1.1,y.2.1.2.1),()))
theorem qz8:ax Tryz.prog wq 2 (jc Tryz.f3 255):=jn rfl wo (.two .z (.two .z (.two .z (.two .z (.two .z (.two (.d [0,1,0,4,12,31,63,127,127,255,1023] [] []) (.two .z (.two .z (.two .z (.two .z (.two (.two .z (.s 1)) .z))))))))))) (sC qz7 s0) (fun c=>((c.1,c.2.1,(),()),((c.2.2.1,c.2.2.2,()),()))) (fun y=>((),()))
abbrev q2f:Mdl:=(aq (.cons (.d true qT1) (.cons (.d true (.slice ae.ty)) (.cons (.d true qT1) .nil))) [] [] 1 qkl (B:=Bool) (fun b=>((b,()),(()))) (fun a=>qgg a.1.1 a.1.2.1 a.1.2.2.1))
theorem qxf:MdlOK Tryz.prog 3 q2f:=gf Tryz.func3 rfl wo (.two .z (.two .z (.two .z (.two .z (.two .z (.two .z (.two (.two .z (.two .z (.s 0))) (.s 2)))))))) (sC qz6 (sC qz8 s0))
end
end Go.Proofs.YteljgpepodpebaaGreat
