/-
  The functions compute what their models say. Made by program (mg3.py) out of the translation.
-/
import Derived.Test.YtdhfhpdadbopkaaZ3Md
import Derived.Test.YtdhfhpdadbopkaaZ3Tt
import Derived.Test.YtdhfhpdadbopkaaZ3Ky
set_option linter.all false
set_option maxRecDepth 100000
namespace Go.Proofs.Ytdhfhpdadbopkaa
open Go.K Go.M
abbrev pe3{A0 A1 A2 A3 A4:Type}(x:A0×A1×A2×A3×A4):A3:=x.2.2.2.1
abbrev pe4{A0 A1 A2 A3 A4 A5:Type}(x:A0×A1×A2×A3×A4×A5):A4:=x.2.2.2.2.1
abbrev pe5{A0 A1 A2 A3 A4 A5 A6:Type}(x:A0×A1×A2×A3×A4×A5×A6):A5:=x.2.2.2.2.2.1
abbrev pe6{A0 A1 A2 A3 A4 A5 A6 A7:Type}(x:A0×A1×A2×A3×A4×A5×A6×A7):A6:=x.2.2.2.2.2.2.1
abbrev pe7{A0 A1 A2 A3 A4 A5 A6 A7 A8:Type}(x:A0×A1×A2×A3×A4×A5×A6×A7×A8):A7:=x.2.2.2.2.2.2.2.1
abbrev pe8{A0 A1 A2 A3 A4 A5 A6 A7 A8 A9:Type}(x:A0×A1×A2×A3×A4×A5×A6×A7×A8×A9):A8:=x.2.2.2.2.2.2.2.2.1
abbrev pe9{A0 A1 A2 A3 A4 A5 A6 A7 A8 A9 A10:Type}(x:A0×A1×A2×A3×A4×A5×A6×A7×A8×A9×A10):A9:=x.2.2.2.2.2.2.2.2.2.1
abbrev pe10{A0 A1 A2 A3 A4 A5 A6 A7 A8 A9 A10 A11:Type}(x:A0×A1×A2×A3×A4×A5×A6×A7×A8×A9×A10×A11):A10:=x.2.2.2.2.2.2.2.2.2.2.1
abbrev pe11{A0 A1 A2 A3 A4 A5 A6 A7 A8 A9 A10 A11 A12:Type}(x:A0×A1×A2×A3×A4×A5×A6×A7×A8×A9×A10×A11×A12):A11:=x.2.2.2.2.2.2.2.2.2.2.2.1
abbrev pe12{A0 A1 A2 A3 A4 A5 A6 A7 A8 A9 A10 A11 A12 A13:Type}(x:A0×A1×A2×A3×A4×A5×A6×A7×A8×A9×A10×A11×A12×A13):A12:=x.2.2.2.2.2.2.2.2.2.2.2.2.1
abbrev pe13{A0 A1 A2 A3 A4 A5 A6 A7 A8 A9 A10 A11 A12 A13 A14:Type}(x:A0×A1×A2×A3×A4×A5×A6×A7×A8×A9×A10×A11×A12×A13×A14):A13:=x.2.2.2.2.2.2.2.2.2.2.2.2.2.1
abbrev pe14{A0 A1 A2 A3 A4 A5 A6 A7 A8 A9 A10 A11 A12 A13 A14 A15:Type}(x:A0×A1×A2×A3×A4×A5×A6×A7×A8×A9×A10×A11×A12×A13×A14×A15):A14:=x.2.2.2.2.2.2.2.2.2.2.2.2.2.2.1
abbrev pf4{A0 A1 A2 A3 A4:Type}(x:A0×A1×A2×A3×A4):A4:=x.2.2.2.2
abbrev pf5{A0 A1 A2 A3 A4 A5:Type}(x:A0×A1×A2×A3×A4×A5):A5:=x.2.2.2.2.2
abbrev pf6{A0 A1 A2 A3 A4 A5 A6:Type}(x:A0×A1×A2×A3×A4×A5×A6):A6:=x.2.2.2.2.2.2
abbrev pf7{A0 A1 A2 A3 A4 A5 A6 A7:Type}(x:A0×A1×A2×A3×A4×A5×A6×A7):A7:=x.2.2.2.2.2.2.2
abbrev pf8{A0 A1 A2 A3 A4 A5 A6 A7 A8:Type}(x:A0×A1×A2×A3×A4×A5×A6×A7×A8):A8:=x.2.2.2.2.2.2.2.2
abbrev pf9{A0 A1 A2 A3 A4 A5 A6 A7 A8 A9:Type}(x:A0×A1×A2×A3×A4×A5×A6×A7×A8×A9):A9:=x.2.2.2.2.2.2.2.2.2
abbrev pf10{A0 A1 A2 A3 A4 A5 A6 A7 A8 A9 A10:Type}(x:A0×A1×A2×A3×A4×A5×A6×A7×A8×A9×A10):A10:=x.2.2.2.2.2.2.2.2.2.2
abbrev pf11{A0 A1 A2 A3 A4 A5 A6 A7 A8 A9 A10 A11:Type}(x:A0×A1×A2×A3×A4×A5×A6×A7×A8×A9×A10×A11):A11:=x.2.2.2.2.2.2.2.2.2.2.2
abbrev pf13{A0 A1 A2 A3 A4 A5 A6 A7 A8 A9 A10 A11 A12 A13:Type}(x:A0×A1×A2×A3×A4×A5×A6×A7×A8×A9×A10×A11×A12×A13):A13:=x.2.2.2.2.2.2.2.2.2.2.2.2.2
abbrev pf15{A0 A1 A2 A3 A4 A5 A6 A7 A8 A9 A10 A11 A12 A13 A14 A15:Type}(x:A0×A1×A2×A3×A4×A5×A6×A7×A8×A9×A10×A11×A12×A13×A14×A15):A15:=x.2.2.2.2.2.2.2.2.2.2.2.2.2.2.2
noncomputable section
def qoi:Shp:=⟨[(0, .d true a8.ty)],[]⟩
abbrev qsn:Ctx (a8):=⟨51,tt,false,false,[],f8 [],gv [ao _ 51 [] qx8 (C:=(ByteArray×(List ByteArray)×Int×Int×(List ae)×Int×Int×Int×Int×Int)) (S:=(Int×(List ae))) (fun x=>((x.1.1,(pe3 x.1),(pe4 x.1),x.2.1.1,x.2.1.2.1,x.2.1.2.2.1,(pe3 x.2.1),x.2.2.1.1,x.2.2.1.2.2.1,(pe3 x.2.2.1)),((pe5 x.1),(pe3 x)))) qx7 (CE:=(ByteArray×Int×(List ae)×Int×Int×Int×Int×Int)) (E:=(List ae)) (fun c e=>((c.1,(),(),()),((c.2.1,c.2.2.1,(pe3 c),(pe4 c),()),((pe5 c),(),(pe6 c),(pf7 c),()),e,()))) (fun c=>(c.1,(pe3 c),(pe4 c),(pe5 c),(pe6 c),(pe7 c),(pe8 c),(pf9 c))) (fun{R} c a nx dn rt=>qlt c.1 c.2.1 c.2.2.1 (pe3 c) (pe4 c) (pe5 c) (pe6 c) (pe7 c) (pe8 c) (pf9 c) a.1 a.2 nx dn rt)],bn 51 tt [] [.cell 4 24] qoi (fun x=>x.1.1)⟩
theorem qsl:CtxM Try.prog qsn:=g9 fits mixed m0
theorem q1g:ay Try.prog qsn 0 (lc 0 Try.f33 75):=lp rfl qsl .z s0 (fun c a=>((c.1,(),(),c.2.1,c.2.2.1,a.1,()),(((pe3 c),(pe4 c),(pe5 c),(pe6 c),()),((pe7 c),(),(pe8 c),(pf9 c),()),a.2,()))) (fun y=>((y.1.1,y.2.1.1,y.2.1.2.1,y.2.1.2.2.1,(pe3 y.2.1),y.2.2.1.1,y.2.2.1.2.2.1,(pe3 y.2.2.1)),(pe3 y)))
abbrev qsm:Mdl:=(ar (.cons (.d false .str) (.cons (.d false (.slice .str)) .nil)) [] [] 1 qoi (B:=a8) (fun b=>((b,()),(()))) (fun a=>qmv a.1.1 a.1.2.1))
theorem qx9:MdlOK Try.prog 33 qsm:=g8 Try.func33 rfl qsl (.two .z (.two .z (.two (.two .z (.s 0)) .z))) (sC q1g s0)
def ql1:Shp:=⟨[qkr],[]⟩
abbrev q1p:Ctx (Bool):=⟨17,tt,false,false,[],f8 [],gv [],bn 17 tt [] [.tmp 2] ql1 (fun x=>x.1.1)⟩
theorem q1o:CtxM Try.prog q1p:=g9 fits mixed m0
abbrev qgu:Mdl:=(ar (.cons (.d false (.int .u8)) .nil) [] [] 1 ql1 (B:=Bool) (fun b=>((b,()),(()))) (fun a=>qae a.1.1))
theorem qjs:MdlOK Try.prog 119 qgu:=g8 Try.func119 rfl q1o .z s0
def qsr:Shp:=⟨[qkr],[]⟩
abbrev q5p:Ctx (Bool):=⟨25,tt,false,false,[],f8 [(119,qgu)],gv [],bn 25 tt [] [.tmp 2] qsr (fun x=>x.1.1)⟩
theorem q5o:CtxM Try.prog q5p:=g9 fits mixed (mC qjs m0)
abbrev qwp:Mdl:=(ar (.cons (.d false (.int .u8)) .nil) [] [] 1 qsr (B:=Bool) (fun b=>((b,()),(()))) (fun a=>qkn a.1.1))
theorem q1q:MdlOK Try.prog 120 qwp:=g8 Try.func120 rfl q5o .z s0
def ql0:Shp:=⟨[qkr],[]⟩
abbrev qow:Ctx (Bool):=⟨29,tt,false,false,[],f8 [(119,qgu),(120,qwp)],gv [ao _ 29 [] qwn (C:=(ByteArray×Int)) (S:=Int) (fun x=>((x.1.1,x.1.2.1),x.1.2.2.1)) qwm (CE:=Unit) (E:=Unit) (fun c e=>((()),(()))) (fun c=>()) (fun{R} c a nx dn rt=>ql c.1 c.2 a nx dn rt)],bn 29 tt [] [.tmp 2] ql0 (fun x=>x.1.1)⟩
theorem qou:CtxM Try.prog qow:=g9 fits mixed (mC qjs (mC q1q m0))
theorem qys:ay Try.prog qow 0 (lc 0 Try.f108 75):=lp rfl qou .z s0 (fun c a=>((c.1,c.2,a,()),(()))) (fun y=>((),()))
abbrev qov:Mdl:=(ar (.cons (.d false .str) .nil) [] [] 1 ql0 (B:=Bool) (fun b=>((b,()),(()))) (fun a=>qdy a.1.1))
theorem qwo:MdlOK Try.prog 108 qov:=g8 Try.func108 rfl qou (.two .z (.two .z (.two (.two .z (.s 0)) .z))) (sC qys s0)
def qj0:Shp:=⟨[qkr],[]⟩
abbrev qma:Ctx (Bool):=⟨36,tt,false,false,[],f8 [],gv [ao _ 36 [] qt7 (C:=(qL1×qL1×Int×Int×(List ae)×Int×Int)) (S:=Int) (fun x=>((x.1.1,x.1.2.2.1,(pe3 x.1),x.2.1.1,x.2.1.2.1,x.2.1.2.2.1,(pe3 x.2.1)),(pe4 x.1))) qt6 (CE:=Unit) (E:=Unit) (fun c e=>((()),(()))) (fun c=>()) (fun{R} c a nx dn rt=>l3 c.1 c.2.1 c.2.2.1 (pe3 c) (pe4 c) (pe5 c) (pf6 c) a nx dn rt)],bn 36 tt [] [.tmp 4] qj0 (fun x=>x.1.1)⟩
theorem ql8:CtxM Try.prog qma:=g9 fits mixed m0
theorem qw6:ay Try.prog qma 0 (lc 0 Try.f109 37):=lp rfl ql8 .z s0 (fun c a=>((c.1,(),c.2.1,c.2.2.1,a,()),(((pe3 c),(pe4 c),(pe5 c),(pf6 c),()),()))) (fun y=>((),()))
abbrev ql9:Mdl:=(ar (.cons (.d false a8.ty) (.cons (.d false qT1) .nil)) [] [] 1 qj0 (B:=Bool) (fun b=>((b,()),(()))) (fun a=>jz a.1.1 a.1.2.1))
theorem qt8:MdlOK Try.prog 109 ql9:=g8 Try.func109 rfl ql8 (.two .z (.two (.two .z (.s 0)) .z)) (sC qw6 s0)
def ql6:Shp:=⟨[qkr],[]⟩
abbrev qo4:Ctx (Bool):=⟨62,tt,false,false,[],f8 [(108,qov),(109,ql9)],gv [ao _ 62 [] qw1 (C:=((List ae)×Int×Int×(List ae)×Int×Int)) (S:=Int) (fun x=>((x.1.2.1,x.1.2.2.1,x.2.1.1,x.2.1.2.1,x.2.1.2.2.1,(pe3 x.2.1)),(pe3 x.1))) qw0 (CE:=(Int×(List ae)×Int×Int)) (E:=Unit) (fun c e=>(((),()),((c.1,c.2.1,c.2.2.1,c.2.2.2,()),()))) (fun c=>(c.2.2.1,(pe3 c),(pe4 c),(pf5 c))) (fun{R} c a nx dn rt=>wn c.1 c.2.1 c.2.2.1 (pe3 c) (pe4 c) (pf5 c) a nx dn rt)],bn 62 tt [] [.tmp 2] ql6 (fun x=>x.1.1)⟩
theorem qo3:CtxM Try.prog qo4:=g9 fits mixed (mC qwo (mC qt8 m0))
theorem qyt:ay Try.prog qo4 0 (lc 0 Try.f85 75):=lp rfl qo3 .z s0 (fun c a=>(((),c.1,c.2.1,a,()),((c.2.2.1,(pe3 c),(pe4 c),(pf5 c),()),()))) (fun y=>((y.2.1.1,y.2.1.2.1,y.2.1.2.2.1,(pe3 y.2.1)),()))
abbrev wo:Mdl:=(ar (.cons (.d false a8.ty) .nil) [] [] 1 ql6 (B:=Bool) (fun b=>((b,()),(()))) (fun a=>qn a.1.1))
theorem wq:MdlOK Try.prog 85 wo:=g8 Try.func85 rfl qo3 (.two .z (.two .z (.two (.two .z (.s 0)) .z))) (sC qyt s0)
def xm:Shp:=⟨[qu2],[]⟩
abbrev yd:Ctx (Int):=⟨19,tt,false,false,[],f8 [],gv [ao _ 19 [] qf8 (C:=(qL1×Int×Int)) (S:=Int) (fun x=>((x.1.1,x.1.2.1,x.1.2.2.1),(pe3 x.1))) qf7 (CE:=Unit) (E:=Unit) (fun c e=>((()),(()))) (fun c=>()) (fun{R} c a nx dn rt=>jb c.1 c.2.1 c.2.2 a nx dn rt)],bn 19 tt [] [.tmp 4] xm (fun x=>x.1.1)⟩
theorem yb:CtxM Try.prog yd:=g9 fits mixed m0
theorem qg3:ay Try.prog yd 0 (lc 0 Try.f115 37):=lp rfl yb .z s0 (fun c a=>((c.1,c.2.1,c.2.2,a,()),(()))) (fun y=>((),()))
abbrev yc:Mdl:=(ar (.cons (.d false qT1) (.cons (.d false qT0) .nil)) [] [] 1 xm (B:=Int) (fun b=>((b,()),(()))) (fun a=>qu a.1.1 a.1.2.1))
theorem qf9:MdlOK Try.prog 115 yc:=g8 Try.func115 rfl yb (.two .z (.two (.two .z (.s 0)) .z)) (sC qg3 s0)
def si:Shp:=⟨[qkr],[]⟩
abbrev qer:Ctx (Bool):=⟨9,tt,false,false,[],f8 [(115,yc)],gv [],bn 9 tt [] [.tmp 4] si (fun x=>x.1.1)⟩
theorem qeq:CtxM Try.prog qer:=g9 fits mixed (mC qf9 m0)
abbrev tq:Mdl:=(ar (.cons (.d false qT1) (.cons (.d false qT0) .nil)) [] [] 1 si (B:=Bool) (fun b=>((b,()),(()))) (fun a=>fu a.1.1 a.1.2.1))
theorem qdb:MdlOK Try.prog 100 tq:=g8 Try.func100 rfl qeq .z s0
def qd3:Shp:=⟨[qkr],[]⟩
abbrev qrw:Ctx (Bool):=⟨8,tt,false,false,[],f8 [],gv [],bn 8 tt [] [.tmp 3] qd3 (fun x=>x.1.1)⟩
theorem qrv:CtxM Try.prog qrw:=g9 fits mixed m0
abbrev qft:Mdl:=(ar (.cons (.d false qT0) (.cons (.rp false (.slice .bool)) .nil)) [] [] 1 qd3 (B:=Bool) (fun b=>((b,()),(()))) (fun a=>t8 a.1.1 a.1.2.1))
theorem qnj:MdlOK Try.prog 116 qft:=g8 Try.func116 rfl qrv .z s0
def nq:Shp:=⟨[qu2],[]⟩
abbrev n4:Ctx (Int):=⟨19,tt,false,false,[],f8 [(116,qft)],gv [ao _ 19 [] x4 (C:=(qL1×(List Bool)×Int)) (S:=Int) (fun x=>((x.1.1,x.1.2.1.1,x.1.2.2.1),(pe3 x.1))) x3 (CE:=Unit) (E:=Unit) (fun c e=>((()),(()))) (fun c=>()) (fun{R} c a nx dn rt=>d8 c.1 c.2.1 c.2.2 a nx dn rt)],bn 19 tt [] [.tmp 4] nq (fun x=>x.1.1)⟩
theorem ny:CtxM Try.prog n4:=g9 fits mixed (mC qnj m0)
theorem yu:ay Try.prog n4 0 (lc 0 Try.f110 37):=lp rfl ny .z s0 (fun c a=>((c.1,(c.2.1,()),c.2.2,a,()),(()))) (fun y=>((),()))
abbrev nz:Mdl:=(ar (.cons (.d false qT1) (.cons (.fn 116 (.cons (.rp false (.slice .bool)) .nil)) .nil)) [] [] 1 nq (B:=Int) (fun b=>((b,()),(()))) (fun a=>jg a.1.1 a.1.2.1.1))
theorem x5:MdlOK Try.prog 110 nz:=g8 Try.func110 rfl ny (.two .z (.two (.two .z (.s 0)) .z)) (sC yu s0)
def ll:Shp:=⟨[qkr],[]⟩
abbrev xh:Ctx (Bool):=⟨9,tt,false,false,[],f8 [(110,nz)],gv [],bn 9 tt [] [.tmp 4] ll (fun x=>x.1.1)⟩
theorem xg:CtxM Try.prog xh:=g9 fits mixed (mC x5 m0)
abbrev mc:Mdl:=(ar (.cons (.d false qT1) (.cons (.fn 116 (.cons (.rp false (.slice .bool)) .nil)) .nil)) [] [] 1 ll (B:=Bool) (fun b=>((b,()),(()))) (fun a=>ck a.1.1 a.1.2.1.1))
theorem ui:MdlOK Try.prog 86 mc:=g8 Try.func86 rfl xg .z s0
def qhz:Shp:=⟨[jb9,(1, .own 1)],[qup,qup]⟩
abbrev wx:Ctx (((List Bool)×(List Bool))):=⟨69,tt,false,false,[],f8 [(86,mc)],gv [ao _ 69 [] qrq (C:=(Bool×Bool×(List ae)×Int×Int×qL1×Int×Int×(List ae)×Int×Int×(List Bool))) (S:=(Int×(List Bool))) (fun x=>((x.1.1,(pe4 x.1),(pe5 x.1),(pe6 x.1),(pe7 x.1),(pe8 x.1),(pe9 x.1),x.2.1.1,x.2.1.2.1,x.2.1.2.2.1,(pe3 x.2.1),(pe3 x)),((pe10 x.1),(pe4 x)))) qrp (CE:=(Bool×Bool×(List ae)×Int×Int×Int×(List ae)×Int×Int×(List Bool))) (E:=(List Bool)) (fun c e=>((c.1,(),(),(),c.2.1,c.2.2.1,(pe3 c),(pe4 c),()),(((pe5 c),(pe6 c),(pe7 c),(pe8 c),()),((),()),(pf9 c),e,()))) (fun c=>(c.1,c.2.1,c.2.2.1,(pe3 c),(pe4 c),(pe7 c),(pe8 c),(pe9 c),(pe10 c),(pf11 c))) (fun{R} c a nx dn rt=>rj c.1 c.2.1 c.2.2.1 (pe3 c) (pe4 c) (pe5 c) (pe6 c) (pe7 c) (pe8 c) (pe9 c) (pe10 c) (pf11 c) a.1 a.2 nx dn rt),ao _ 69 [] qrs (C:=(Bool×(List ae)×Int×Int×(List ae)×Int×Int)) (S:=(Bool×Int×(List Bool)×(List Bool))) (fun x=>((x.1.1,(pe5 x.1),(pe6 x.1),x.2.1.1,x.2.1.2.1,x.2.1.2.2.1,(pe3 x.2.1)),((pe4 x.1),(pe7 x.1),(pe3 x),(pe4 x)))) qrr (CE:=(Bool×Int×(List ae)×Int×Int)) (E:=(Bool×(List Bool)×(List Bool))) (fun c e=>((c.1,(),(),(),e.1,()),((c.2.1,c.2.2.1,(pe3 c),(pf4 c),()),((),()),e.2.1,e.2.2,()))) (fun c=>(c.1,(pe3 c),(pe4 c),(pe5 c),(pf6 c))) (fun{R} c a nx dn rt=>fp c.1 c.2.1 c.2.2.1 (pe3 c) (pe4 c) (pe5 c) (pf6 c) a.1 a.2.1 a.2.2.1 a.2.2.2 nx dn rt),ao _ 69 [] qru (C:=(Bool×Int×(List ae)×Int×Int)) (S:=(Bool×(List Bool)×(List Bool))) (fun x=>((x.1.1,x.2.1.1,x.2.1.2.1,x.2.1.2.2.1,(pe3 x.2.1)),((pe4 x.1),(pe3 x),(pe4 x)))) qrt (CE:=Unit) (E:=((List Bool)×(List Bool))) (fun c e=>(((),(),()),(((),()),e.1,e.2,()))) (fun c=>()) (fun{R} c a nx dn rt=>yp c.1 c.2.1 c.2.2.1 (pe3 c) (pf4 c) a.1 a.2.1 a.2.2 nx dn rt)],bn 69 tt [] [.tmp 6, .tmp 7] qhz (fun x=>(x.2.1,x.2.2.1))⟩
theorem wv:CtxM Try.prog wx:=g9 fits mixed (mC ui m0)
theorem qt9:ay Try.prog wx 0 (lc 4 Try.f101 41838231):=lp rfl wv .z s0 (fun c a=>((c.1,(),(),(),c.2.1,c.2.2.1,(pe3 c),(pe4 c),(pe5 c),(pe6 c),a.1,()),(((pe7 c),(pe8 c),(pe9 c),(pe10 c),()),((),()),(pf11 c),a.2,()))) (fun y=>((y.1.1,(pe4 y.1),(pe5 y.1),(pe6 y.1),(pe7 y.1),y.2.1.1,y.2.1.2.1,y.2.1.2.2.1,(pe3 y.2.1),(pe3 y)),(pe4 y)))
theorem qua:ay Try.prog wx 1 (lc 2 Try.f101 9879):=lp rfl wv (.two .z (.two .z (.two (.one (.two .z (.two (.d [0,1,0,4,3,31] [] []) (.two .z (.two .z (.two .z (.two .z (.s 0)))))))) .z))) (sC qt9 s0) (fun c a=>((c.1,(),(),(),a.1,c.2.1,c.2.2.1,a.2.1,()),(((pe3 c),(pe4 c),(pe5 c),(pf6 c),()),((),()),a.2.2.1,a.2.2.2,()))) (fun y=>((y.1.1,y.2.1.1,y.2.1.2.1,y.2.1.2.2.1,(pe3 y.2.1)),((pe4 y.1),(pe3 y),(pe4 y))))
theorem qub:ay Try.prog wx 2 (lc 0 Try.f101 151):=lp rfl wv (.two .z (.one (.two .z (.two .z (.s 1))))) (sC qua s0) (fun c a=>((c.1,(),(),(),a.1,()),((c.2.1,c.2.2.1,(pe3 c),(pf4 c),()),((),()),a.2.1,a.2.2,()))) (fun y=>((),(y.2.2.1,(pe3 y))))
abbrev qj1:Mdl:=(ar (.cons (.d false a8.ty) (.cons (.d false qT0) (.cons (.d false .bool) .nil))) [] [] 2 qhz (B:=((List Bool)×(List Bool))) (fun b=>(((),(),()),(b.1,b.2,()))) (fun a=>m4 a.1.1 a.1.2.1 a.1.2.2.1))
theorem qrx:MdlOK Try.prog 101 qj1:=g8 Try.func101 rfl wv (.two .z (.two (.d [0,1,3,0,8,24,56,0,135,511] [8] []) (.two .z (.two (.two .z (.s 2)) .z)))) (sC qub s0)
def tv:Shp:=⟨[qu2],[]⟩
abbrev va:Ctx (Int):=⟨19,tt,false,false,[],f8 [],gv [ao _ 19 [] qdh (C:=((List Bool)×Bool×Int)) (S:=Int) (fun x=>((x.1.1,x.1.2.1,x.1.2.2.1),(pe3 x.1))) qdg (CE:=Unit) (E:=Unit) (fun c e=>((()),(()))) (fun c=>()) (fun{R} c a nx dn rt=>gk c.1 c.2.1 c.2.2 a nx dn rt)],bn 19 tt [] [.tmp 4] tv (fun x=>x.1.1)⟩
theorem u7:CtxM Try.prog va:=g9 fits mixed m0
theorem qes:ay Try.prog va 0 (lc 0 Try.f117 37):=lp rfl u7 .z s0 (fun c a=>((c.1,c.2.1,c.2.2,a,()),(()))) (fun y=>((),()))
abbrev u9:Mdl:=(ar (.cons (.d false (.slice .bool)) (.cons (.d false .bool) .nil)) [] [] 1 tv (B:=Int) (fun b=>((b,()),(()))) (fun a=>oy a.1.1 a.1.2.1))
theorem qdi:MdlOK Try.prog 117 u9:=g8 Try.func117 rfl u7 (.two .z (.two (.two .z (.s 0)) .z)) (sC qes s0)
def qc:Shp:=⟨[qkr],[]⟩
abbrev qda:Ctx (Bool):=⟨9,tt,false,false,[],f8 [(117,u9)],gv [],bn 9 tt [] [.tmp 4] qc (fun x=>x.1.1)⟩
theorem qc9:CtxM Try.prog qda:=g9 fits mixed (mC qdi m0)
abbrev qq:Mdl:=(ar (.cons (.d false (.slice .bool)) (.cons (.d false .bool) .nil)) [] [] 1 qc (B:=Bool) (fun b=>((b,()),(()))) (fun a=>bz a.1.1 a.1.2.1))
theorem qba:MdlOK Try.prog 102 qq:=g8 Try.func102 rfl qc9 .z s0
def qfo:Shp:=⟨[qkr],[]⟩
abbrev qa3:Ctx (Bool):=⟨65,tt,false,false,[],f8 [(85,wo),(100,tq),(101,qj1),(102,qq)],gv [ao _ 65 [] qo8 (C:=((List ae)×Int×Int×(List ae)×Int×Int)) (S:=Int) (fun x=>((x.1.2.1,x.1.2.2.1,x.2.1.1,x.2.1.2.1,x.2.1.2.2.1,(pe3 x.2.1)),(pe3 x.1))) qo7 (CE:=(Int×(List ae)×Int×Int)) (E:=Unit) (fun c e=>(((),()),((c.1,c.2.1,c.2.2.1,c.2.2.2,()),()))) (fun c=>(c.2.2.1,(pe3 c),(pe4 c),(pf5 c))) (fun{R} c a nx dn rt=>p9 c.1 c.2.1 c.2.2.1 (pe3 c) (pe4 c) (pf5 c) a nx dn rt),ao _ 65 [] qpa (C:=((List Bool)×Int×Int×(List ae)×Int×Int)) (S:=Int) (fun x=>((x.1.2.1,x.1.2.2.1,x.2.1.1,x.2.1.2.1,x.2.1.2.2.1,(pe3 x.2.1)),(pe3 x.1))) qo9 (CE:=Unit) (E:=Unit) (fun c e=>((()),(()))) (fun c=>()) (fun{R} c a nx dn rt=>qa c.1 c.2.1 c.2.2.1 (pe3 c) (pe4 c) (pf5 c) a nx dn rt)],bn 65 tt [] [.tmp 2] qfo (fun x=>x.1.1)⟩
theorem qa2:CtxM Try.prog qa3:=g9 fits mixed (mC wq (mC qdb (mC qrx (mC qba m0))))
theorem qrk:ay Try.prog qa3 1 (lc 2 Try.f76 151):=lp rfl qa2 .z s0 (fun c a=>(((),c.1,c.2.1,a,()),((c.2.2.1,(pe3 c),(pe4 c),(pf5 c),()),()))) (fun y=>((),()))
theorem qrj:ay Try.prog qa3 0 (lc 0 Try.f76 75):=lp rfl qa2 .z s0 (fun c a=>(((),c.1,c.2.1,a,()),((c.2.2.1,(pe3 c),(pe4 c),(pf5 c),()),()))) (fun y=>((y.2.1.1,y.2.1.2.1,y.2.1.2.2.1,(pe3 y.2.1)),()))
abbrev qhv:Mdl:=(ar (.cons (.d false a8.ty) .nil) [] [] 1 qfo (B:=Bool) (fun b=>((b,()),(()))) (fun a=>ij a.1.1))
theorem qpb:MdlOK Try.prog 76 qhv:=g8 Try.func76 rfl qa2 (.two .z (.two .z (.two (.two .z (.s 0)) (.two (.two .z (.s 1)) .z)))) (sC qrj (sC qrk s0))
def qjc:Shp:=⟨[qu2],[]⟩
abbrev qyo:Ctx (Int):=⟨13,tt,false,false,[],f8 [(76,qhv)],gv [],bn 13 tt [] [.tmp 4] qjc (fun x=>x.1.1)⟩
theorem qyn:CtxM Try.prog qyo:=g9 fits mixed (mC qpb m0)
abbrev qed:Mdl:=(ar (.cons (.d false a8.ty) (.cons (.d false a8.ty) .nil)) [] [] 1 qjc (B:=Int) (fun b=>((b,()),(()))) (fun a=>qby a.1.1 a.1.2.1))
theorem qhm:MdlOK Try.prog 43 qed:=g8 Try.func43 rfl qyn .z s0
def qsz:Shp:=⟨[jb9,jcb],[qtg]⟩
abbrev q5x:Ctx ((Int×qL1)):=⟨17,tt,false,false,[],f8 [(85,wo)],gv [],bn 17 tt [] [.tmp 4, .tmp 5] qsz (fun x=>(x.1.2.1,x.2.1))⟩
theorem q5w:CtxM Try.prog q5x:=g9 fits mixed (mC wq m0)
abbrev qni:Mdl:=(ar (.cons (.d false a8.ty) (.cons (.d false qT0) .nil)) [] [] 2 qsz (B:=(Int×qL1)) (fun b=>(((),b.1,()),(b.2,()))) (fun a=>qfs a.1.1 a.1.2.1))
theorem qpf:MdlOK Try.prog 104 qni:=g8 Try.func104 rfl q5w .z s0
def qhu:Shp:=⟨[jtt,jcb],[]⟩
abbrev qwx:Ctx ((qL1×Int)):=⟨10,tt,false,false,[],f8 [(104,qni)],gv [],bn 10 tt [] [.tmp 2, .tmp 3] qhu (fun x=>(x.1.1,x.1.2.1))⟩
theorem qww:CtxM Try.prog qwx:=g9 fits mixed (mC qpf m0)
abbrev qc2:Mdl:=(ar (.cons (.d false a8.ty) .nil) [] [] 2 qhu (B:=(qL1×Int)) (fun b=>((b.1,b.2,()),(()))) (fun a=>tc a.1.1))
theorem qfk:MdlOK Try.prog 79 qc2:=g8 Try.func79 rfl qww .z s0
def qd2:Shp:=⟨[qkr],[]⟩
abbrev qro:Ctx (Bool):=⟨9,tt,false,false,[],f8 [],gv [],bn 9 tt [] [.tmp 2] qd2 (fun x=>x.1.1)⟩
theorem qrn:CtxM Try.prog qro:=g9 fits mixed m0
abbrev qfr:Mdl:=(ar (.cons (.d false qT0) .nil) [] [] 1 qd2 (B:=Bool) (fun b=>((b,()),(()))) (fun a=>qa5 a.1.1))
theorem qnh:MdlOK Try.prog 87 qfr:=g8 Try.func87 rfl qrn .z s0
def od:Shp:=⟨[qu2],[]⟩
abbrev pq:Ctx (Int):=⟨19,tt,false,false,[],f8 [(87,qfr)],gv [ao _ 19 [] y9 (C:=(qL1×Int)) (S:=Int) (fun x=>((x.1.1,x.1.2.2.1),(pe3 x.1))) y8 (CE:=Unit) (E:=Unit) (fun c e=>((()),(()))) (fun c=>()) (fun{R} c a nx dn rt=>ey c.1 c.2 a nx dn rt)],bn 19 tt [] [.tmp 4] od (fun x=>x.1.1)⟩
theorem po:CtxM Try.prog pq:=g9 fits mixed (mC qnh m0)
theorem qao:ay Try.prog pq 0 (lc 0 Try.f110 37):=lp rfl po .z s0 (fun c a=>((c.1,(()),c.2,a,()),(()))) (fun y=>((),()))
abbrev pp:Mdl:=(ar (.cons (.d false qT1) (.cons (.fn 87 .nil) .nil)) [] [] 1 od (B:=Int) (fun b=>((b,()),(()))) (fun a=>j5 a.1.1))
theorem za:MdlOK Try.prog 110 pp:=g8 Try.func110 rfl po (.two .z (.two (.two .z (.s 0)) .z)) (sC qao s0)
def mh:Shp:=⟨[qkr],[]⟩
abbrev xw:Ctx (Bool):=⟨9,tt,false,false,[],f8 [(110,pp)],gv [],bn 9 tt [] [.tmp 4] mh (fun x=>x.1.1)⟩
theorem xu:CtxM Try.prog xw:=g9 fits mixed (mC za m0)
abbrev m9:Mdl:=(ar (.cons (.d false qT1) (.cons (.fn 87 .nil) .nil)) [] [] 1 mh (B:=Bool) (fun b=>((b,()),(()))) (fun a=>eq a.1.1))
theorem vf:MdlOK Try.prog 86 m9:=g8 Try.func86 rfl xu .z s0
def qhx:Shp:=⟨[qkr],[]⟩
abbrev qw5:Ctx (Bool):=⟨19,tt,false,false,[],f8 [(85,wo),(86,m9)],gv [],bn 19 tt [] [.tmp 4] qhx (fun x=>x.1.1)⟩
theorem qw4:CtxM Try.prog qw5:=g9 fits mixed (mC wq (mC vf m0))
abbrev wu:Mdl:=(ar (.cons (.d false a8.ty) (.cons (.d false qT1) .nil)) [] [] 1 qhx (B:=Bool) (fun b=>((b,()),(()))) (fun a=>kg a.1.1 a.1.2.1))
theorem yo:MdlOK Try.prog 49 wu:=g8 Try.func49 rfl qw4 .z s0
def te:Shp:=⟨[jb9],[qtg]⟩
abbrev qf1:Ctx (qL1):=⟨8,tt,false,false,[],f8 [],gv [],bn 8 tt [] [.tmp 2] te (fun x=>x.2.1)⟩
theorem qfz:CtxM Try.prog qf1:=g9 fits mixed m0
abbrev qf0:Mdl:=(ar (.cons (.nl false (.d false qT1)) .nil) [] [] 1 te (B:=qL1) (fun b=>(((),()),(b,()))) (fun a=>xd a.1.1))
theorem qde:MdlOK Try.prog 50 qf0:=g8 Try.func50 rfl qfz .z s0
def m5:Shp:=⟨[jb9],[qtg]⟩
abbrev qf4:Ctx (qL1):=⟨8,tt,false,false,[],f8 [],gv [],bn 8 tt [] [.tmp 2] m5 (fun x=>x.2.1)⟩
theorem qf2:CtxM Try.prog qf4:=g9 fits mixed m0
abbrev qf3:Mdl:=(ar (.cons (.nl true (.d false qT1)) .nil) [] [] 1 m5 (B:=qL1) (fun b=>(((),()),(b,()))) (fun a=>j1 a.1.1))
theorem qdf:MdlOK Try.prog 50 qf3:=g8 Try.func50 rfl qf2 .z s0
abbrev gn:Mdl:=(ar (.cons (.d false qT1) .nil) [] [] 1 m5 (fun(b:qL1)=>(((),()),(b,()))) (fun(a:((qL1×Unit)×(Unit)))=>br a.1.1))
theorem i6:MdlOK Try.prog 50 gn:=by
 refine qzy (q7t _ _) qde qdf (by kernel_rfl) (fun a b h=>⟨?_,h⟩);obtain⟨⟨xs,u1⟩,u2⟩:=a;cases xs with
 |nil=>exact h
 |cons x l=>
  have e:decide ((((x::l).length:Nat):Int)=0)=false:=decide_eq_false (by simp only[List.length_cons];omega);simp only[br,j1]at h;simp only[xd,e,cond_false];exact h
def qd1:Shp:=⟨[qkr],[]⟩
abbrev qrm:Ctx (Bool):=⟨9,tt,false,false,[],f8 [],gv [],bn 9 tt [] [.tmp 3] qd1 (fun x=>x.1.1)⟩
theorem qrl:CtxM Try.prog qrm:=g9 fits mixed m0
abbrev qfp:Mdl:=(ar (.cons (.d false qT0) (.cons (.rp false qT1) .nil)) [] [] 1 qd1 (B:=Bool) (fun b=>((b,()),(()))) (fun a=>qa4 a.1.1 a.1.2.1))
theorem qng:MdlOK Try.prog 111 qfp:=g8 Try.func111 rfl qrl .z s0
def nm:Shp:=⟨[qu2],[]⟩
abbrev nw:Ctx (Int):=⟨19,tt,false,false,[],f8 [(111,qfp)],gv [ao _ 19 [] xy (C:=(qL1×qL1×Int)) (S:=Int) (fun x=>((x.1.1,x.1.2.1.1,x.1.2.2.1),(pe3 x.1))) xx (CE:=Unit) (E:=Unit) (fun c e=>((()),(()))) (fun c=>()) (fun{R} c a nx dn rt=>d7 c.1 c.2.1 c.2.2 a nx dn rt)],bn 19 tt [] [.tmp 4] nm (fun x=>x.1.1)⟩
theorem nu:CtxM Try.prog nw:=g9 fits mixed (mC qng m0)
theorem yt:ay Try.prog nw 0 (lc 0 Try.f110 37):=lp rfl nu .z s0 (fun c a=>((c.1,(c.2.1,()),c.2.2,a,()),(()))) (fun y=>((),()))
abbrev nv:Mdl:=(ar (.cons (.d false qT1) (.cons (.fn 111 (.cons (.rp false qT1) .nil)) .nil)) [] [] 1 nm (B:=Int) (fun b=>((b,()),(()))) (fun a=>jf a.1.1 a.1.2.1.1))
theorem xz:MdlOK Try.prog 110 nv:=g8 Try.func110 rfl nu (.two .z (.two (.two .z (.s 0)) .z)) (sC yt s0)
def lj:Shp:=⟨[qkr],[]⟩
abbrev xf:Ctx (Bool):=⟨9,tt,false,false,[],f8 [(110,nv)],gv [],bn 9 tt [] [.tmp 4] lj (fun x=>x.1.1)⟩
theorem xe:CtxM Try.prog xf:=g9 fits mixed (mC xz m0)
abbrev ma:Mdl:=(ar (.cons (.d false qT1) (.cons (.fn 111 (.cons (.rp false qT1) .nil)) .nil)) [] [] 1 lj (B:=Bool) (fun b=>((b,()),(()))) (fun a=>ge a.1.1 a.1.2.1.1))
theorem uh:MdlOK Try.prog 86 ma:=g8 Try.func86 rfl xe .z s0
def qhw:Shp:=⟨[qkr],[]⟩
abbrev qw3:Ctx (Bool):=⟨10,tt,false,false,[],f8 [(86,ma)],gv [],bn 10 tt [] [.tmp 4] qhw (fun x=>x.1.1)⟩
theorem qw2:CtxM Try.prog qw3:=g9 fits mixed (mC uh m0)
abbrev qc3:Mdl:=(ar (.cons (.d false ae.ty) (.cons (.d false qT1) .nil)) [] [] 1 qhw (B:=Bool) (fun b=>((b,()),(()))) (fun a=>td a.1.1 a.1.2.1))
theorem qfq:MdlOK Try.prog 88 qc3:=g8 Try.func88 rfl qw2 .z s0
def qaq:Shp:=⟨[qu2],[]⟩
abbrev qbt:Ctx (Int):=⟨25,tt,false,false,[],f8 [],gv [ao _ 25 [] qii (C:=qL1) (S:=(Int×Int)) (fun x=>(x.1.1,(x.1.2.1,x.1.2.2.1))) qih (CE:=Unit) (E:=Int) (fun c e=>((e,()),(()))) (fun c=>()) (fun{R} c a nx dn rt=>lh c a.1 a.2 nx dn rt)],bn 25 tt [] [.tmp 2] qaq (fun x=>x.1.1)⟩
theorem qbr:CtxM Try.prog qbt:=g9 fits mixed m0
theorem qke:ay Try.prog qbt 0 (lc 0 Try.f89 151):=lp rfl qbr .z s0 (fun c a=>((c,a.1,a.2,()),(()))) (fun y=>((),y.1.1))
abbrev qbs:Mdl:=(ar (.cons (.d false qT1) .nil) [] [] 1 qaq (B:=Int) (fun b=>((b,()),(()))) (fun a=>oz a.1.1))
theorem qij:MdlOK Try.prog 89 qbs:=g8 Try.func89 rfl qbr (.two .z (.two .z (.two .z (.two (.two .z (.s 0)) .z)))) (sC qke s0)
def qpe:Shp:=⟨[jb9,jcb],[qtg]⟩
abbrev qjy:Ctx ((Int×qL1)):=⟨66,tt,false,false,[],f8 [(88,qc3),(50,gn),(89,qbs)],gv [ao _ 66 [] qyy (C:=(qL1×Int×ByteArray×qL1×qL1)) (S:=(Int×qL1)) (fun x=>((x.1.2.2.1,(pe3 x.1),x.2.1.1,x.2.1.2.1,x.2.1.2.2.1),((pe4 x.1),x.2.2.1))) qyx (CE:=(ByteArray×qL1×qL1)) (E:=qL1) (fun c e=>(((),(),()),((c.1,c.2.1,c.2.2,()),e,()))) (fun c=>(c.2.2.1,(pe3 c),(pf4 c))) (fun{R} c a nx dn rt=>zk c.1 c.2.1 c.2.2.1 (pe3 c) (pf4 c) a.1 a.2 nx dn rt),ao _ 66 [] qy0 (C:=(qL1×Int)) (S:=(Int×qL1)) (fun x=>((x.1.2.1,x.1.2.2.1),((pe3 x.1),x.2.1))) qyz (CE:=Unit) (E:=qL1) (fun c e=>(((),()),(e,()))) (fun c=>()) (fun{R} c a nx dn rt=>zl c.1 c.2 a.1 a.2 nx dn rt)],bn 66 tt [] [.tmp 6, .tmp 7] qpe (fun x=>(x.1.2.1,x.2.1))⟩
theorem qjw:CtxM Try.prog qjy:=g9 fits mixed (mC qfq (mC i6 (mC qij m0)))
theorem q15:ay Try.prog qjy 1 (lc 2 Try.f51 1215):=lp rfl qjw .z s0 (fun c a=>(((),c.1,c.2,a.1,()),(a.2,()))) (fun y=>((),y.2.1))
theorem q14:ay Try.prog qjy 0 (lc 0 Try.f51 607):=lp rfl qjw .z s0 (fun c a=>(((),(),c.1,c.2.1,a.1,()),((c.2.2.1,(pe3 c),(pf4 c),()),a.2,()))) (fun y=>((y.2.1.1,y.2.1.2.1,y.2.1.2.2.1),y.2.2.1))
abbrev qjx:Mdl:=(ar (.cons (.d false a8.ty) (.cons (.d false qT1) (.cons (.d false qT0) .nil))) [] [] 2 qpe (B:=(Int×qL1)) (fun b=>(((),b.1,()),(b.2,()))) (fun a=>m3 a.1.1 a.1.2.1 a.1.2.2.1))
theorem ql7:MdlOK Try.prog 51 qjx:=g8 Try.func51 rfl qjw (.two .z (.two .z (.two .z (.two .z (.two .z (.two (.two .z (.s 0)) (.two (.two .z (.s 1)) .z))))))) (sC q14 (sC q15 s0))
def qsv:Shp:=⟨[jtt,jcb,jcg],[]⟩
abbrev qwz:Ctx ((qL1×Int×Int)):=⟨48,tt,false,false,[],f8 [(49,wu),(50,gn),(51,qjx)],gv [ao _ 48 [] q12 (C:=(qL1×qL1×Int×Int×(List ae)×Int×Int)) (S:=(qL1×Int)) (fun x=>((x.1.1,(pe3 x.1),(pe4 x.1),x.2.1.1,x.2.1.2.1,x.2.1.2.2.1,(pe3 x.2.1)),(x.1.2.2.1,(pe5 x.1)))) q11 (CE:=qL1) (E:=qL1) (fun c e=>((c,e,()),(()))) (fun c=>c.1) (fun{R} c a nx dn rt=>wm c.1 c.2.1 c.2.2.1 (pe3 c) (pe4 c) (pe5 c) (pf6 c) a.1 a.2 nx dn rt)],bn 48 tt [] [.tmp 6, .tmp 7, .tmp 8] qsv (fun x=>(x.1.1,x.1.2.1,x.1.2.2.1))⟩
theorem qwy:CtxM Try.prog qwz:=g9 fits mixed (mC yo (mC i6 (mC ql7 m0)))
theorem q36:ay Try.prog qwz 0 (lc 1 Try.f14 151):=lp rfl qwy .z s0 (fun c a=>((c.1,(),a.1,c.2.1,c.2.2.1,a.2,()),(((pe3 c),(pe4 c),(pe5 c),(pf6 c),()),()))) (fun y=>(y.1.1,y.1.2.1))
abbrev qnf:Mdl:=(ar (.cons (.d false a8.ty) (.cons (.d false qT1) (.cons (.d false qT1) .nil))) [] [] 3 qsv (B:=(qL1×Int×Int)) (fun b=>((b.1,b.2.1,b.2.2,()),(()))) (fun a=>qfl a.1.1 a.1.2.1 a.1.2.2.1))
theorem qo2:MdlOK Try.prog 14 qnf:=g8 Try.func14 rfl qwy (.two .z (.two .z (.two .z (.two (.two .z (.s 0)) .z)))) (sC q36 s0)
def qo6:Shp:=⟨[jtv,jcb],[jgo]⟩
abbrev qsy:Ctx ((Int×(List ByteArray))):=⟨47,tt,false,false,[],f8 [(85,wo)],gv [ao _ 47 [] qyv (C:=(qL1×Int×Int×(List ae)×Int×Int)) (S:=(Int×(List ByteArray))) (fun x=>((x.1.2.2.1,(pe3 x.1),x.2.1.1,x.2.1.2.1,x.2.1.2.2.1,(pe3 x.2.1)),((pe4 x.1),x.2.2.1))) qyu (CE:=Unit) (E:=(List ByteArray)) (fun c e=>(((),()),(e,()))) (fun c=>()) (fun{R} c a nx dn rt=>zj c.1 c.2.1 c.2.2.1 (pe3 c) (pe4 c) (pf5 c) a.1 a.2 nx dn rt)],bn 47 tt [] [.tmp 4, .tmp 5] qo6 (fun x=>(x.1.2.1,x.2.1))⟩
theorem qsw:CtxM Try.prog qsy:=g9 fits mixed (mC wq m0)
theorem q13:ay Try.prog qsy 0 (lc 1 Try.f80 151):=lp rfl qsw .z s0 (fun c a=>(((),(),c.1,c.2.1,a.1,()),((c.2.2.1,(pe3 c),(pe4 c),(pf5 c),()),a.2,()))) (fun y=>((),y.2.1))
abbrev qsx:Mdl:=(ar (.cons (.d false a8.ty) (.cons (.d false qT1) .nil)) [] [] 2 qo6 (B:=(Int×(List ByteArray))) (fun b=>(((),b.1,()),(b.2,()))) (fun a=>qgw a.1.1 a.1.2.1))
theorem qyw:MdlOK Try.prog 80 qsx:=g8 Try.func80 rfl qsw (.two .z (.two .z (.two .z (.two (.two .z (.s 0)) .z)))) (sC q13 s0)
def qdr:Shp:=⟨[jtt,(1, .nl false (.own 0)),jqs],[jgo]⟩
abbrev qqx:Ctx ((qL1×Bool×(List ByteArray))):=⟨37,tt,false,false,[],f8 [(79,qc2),(14,qnf),(80,qsx)],gv [],bn 37 tt [] [.tmp 4, .tmp 5, .tmp 6] qdr (fun x=>(x.1.1,x.1.2.2.1,x.2.1))⟩
theorem qqw:CtxM Try.prog qqx:=g9 fits mixed (mC qfk (mC qo2 (mC qyw m0)))
abbrev yl:Mdl:=(ar (.cons (.d false a8.ty) (.cons (.d false qT1) .nil)) [] [] 3 qdr (B:=(qL1×Bool×(List ByteArray))) (fun b=>((b.1,(),b.2.1,()),(b.2.2,()))) (fun a=>l0 a.1.1 a.1.2.1))
theorem qcq:MdlOK Try.prog 45 yl:=g8 Try.func45 rfl qqw .z s0
def qhl:Shp:=⟨[jtt,(1, .nl false (.own 0)),jcg],[jgo]⟩
abbrev qwg:Ctx ((qL1×Int×(List ByteArray))):=⟨40,tt,false,false,[],f8 [(43,qed),(45,yl)],gv [],bn 40 tt [] [.tmp 8, .tmp 9, .tmp 10] qhl (fun x=>(x.1.1,x.1.2.2.1,x.2.1))⟩
theorem qwf:CtxM Try.prog qwg:=g9 fits mixed (mC qhm (mC qcq m0))
abbrev qjb:Mdl:=(ar (.cons (.d false a8.ty) (.cons (.d false a8.ty) (.cons (.d false qT1) (.cons (.d false qT0) .nil)))) [] [] 3 qhl (B:=(qL1×Int×(List ByteArray))) (fun b=>((b.1,(),b.2.1,()),(b.2.2,()))) (fun a=>qly a.1.1 a.1.2.1 a.1.2.2.1 (pe3 a.1)))
theorem qqv:MdlOK Try.prog 58 qjb:=g8 Try.func58 rfl qwf .z s0
def qym:Shp:=⟨[jqu],[]⟩
abbrev qbx:Mdl:=(ar (.cons (.d false qT1) .nil) [] [] 1 qym (B:=ByteArray) (fun b=>((b,()),(()))) (fun a=>l6 a.1.1))
theorem qcw:MdlOK Try.prog 93 qbx:=jdg _
def qo1:Shp:=⟨[jb9,jcb],[qtg]⟩
abbrev q35:Ctx ((Int×qL1)):=⟨18,tt,false,false,[],f8 [(49,wu),(51,qjx)],gv [],bn 18 tt [] [.tmp 6, .tmp 7] qo1 (fun x=>(x.1.2.1,x.2.1))⟩
theorem q34:CtxM Try.prog q35:=g9 fits mixed (mC yo (mC ql7 m0))
abbrev qd0:Mdl:=(ar (.cons (.d false a8.ty) (.cons (.d false qT1) (.cons (.d false qT0) .nil))) [] [] 2 qo1 (B:=(Int×qL1)) (fun b=>(((),b.1,()),(b.2,()))) (fun a=>jd a.1.1 a.1.2.1 a.1.2.2.1))
theorem qeg:MdlOK Try.prog 16 qd0:=g8 Try.func16 rfl q34 .z s0
def qhp:Shp:=⟨[jtv],[jg8]⟩
abbrev qjq:Ctx ((List ag)):=⟨32,tt,false,false,[],f8 [(16,qd0)],gv [ao _ 32 [] qra (C:=(qL1×Int×Int×(List ae)×Int×Int)) (S:=(Int×(List ag))) (fun x=>((x.1.1,(pe3 x.1),x.2.1.1,x.2.1.2.1,x.2.1.2.2.1,(pe3 x.2.1)),((pe4 x.1),x.2.2.1))) qq9 (CE:=Unit) (E:=(List ag)) (fun c e=>(((),()),(e,()))) (fun c=>()) (fun{R} c a nx dn rt=>rf c.1 c.2.1 c.2.2.1 (pe3 c) (pe4 c) (pf5 c) a.1 a.2 nx dn rt)],bn 32 tt [] [.tmp 4] qhp (fun x=>x.2.1)⟩
theorem qjp:CtxM Try.prog qjq:=g9 fits mixed (mC qeg m0)
theorem qt4:ay Try.prog qjq 0 (lc 0 Try.f94 75):=lp rfl qjp .z s0 (fun c a=>((c.1,(),(),c.2.1,a.1,()),((c.2.2.1,(pe3 c),(pe4 c),(pf5 c),()),a.2,()))) (fun y=>((),y.2.1))
abbrev qk:Mdl:=(ar (.cons (.d false a8.ty) (.cons (.d false qT1) .nil)) [] [] 1 qhp (B:=(List ag)) (fun b=>(((),()),(b,()))) (fun a=>fg a.1.1 a.1.2.1))
theorem rg:MdlOK Try.prog 94 qk:=g8 Try.func94 rfl qjp (.two .z (.two .z (.two (.two .z (.s 0)) .z))) (sC qt4 s0)
def qbn:Shp:=⟨[jb9,jt5],[qth]⟩
abbrev ug:Ctx ((Bool×(List af))):=⟨109,tt,false,true,[],f8 [(79,qc2),(93,qbx),(94,qk),(50,gn)],gv [ao _ 109 [] qjf (C:=((List ByteArray)×Int×Int×(List ag)×Int×Int×(List ae)×Int×Int×Int×qL1×qL1)) (S:=(Int×(List af)×(List (ByteArray×Bool)))) (fun x=>((x.1.1,x.1.2.1,(pe5 x.1),(pe7 x.1),(pe8 x.1),x.2.1.1,x.2.1.2.1,x.2.1.2.2.1,(pe3 x.2.1),(pe4 x).1,(pe4 x).2.1,(pe4 x).2.2.1),((pe9 x.1),x.2.2.1,(pe3 x)))) qje (CE:=((List ByteArray)×Int×Int×Int×(List ae)×Int×Int)) (E:=((List af)×(List (ByteArray×Bool)))) (fun c e=>((c.1,c.2.1,(),(),(),c.2.2.1,()),(((pe3 c),(pe4 c),(pe5 c),(pf6 c),()),e.1,e.2,()))) (fun c=>(c.1,c.2.1,c.2.2.1,(pe5 c),(pe6 c),(pe7 c),(pe8 c))) (fun{R} c a nx dn rt=>qac c.1 c.2.1 c.2.2.1 (pe3 c) (pe4 c) (pe5 c) (pe6 c) (pe7 c) (pe8 c) (pe9 c) (pe10 c) (pf11 c) a.1 a.2.1 a.2.2 nx dn rt),ao _ 109 [] qjh (C:=((List ByteArray)×Int×Int×(List ae)×Int×Int)) (S:=(Int×(List af)×(List (ByteArray×Bool)))) (fun x=>((x.1.1,x.1.2.1,x.2.1.1,x.2.1.2.1,x.2.1.2.2.1,(pe3 x.2.1)),((pe5 x.1),x.2.2.1,(pe3 x)))) qjg (CE:=Unit) (E:=(List af)) (fun c e=>(((),()),(e,()))) (fun c=>()) (fun{R} c a nx dn rt=>qad c.1 c.2.1 c.2.2.1 (pe3 c) (pe4 c) (pf5 c) a.1 a.2.1 a.2.2 nx dn rt)],bn 109 tt [] [.tmp 6, .tmp 7] qbn (fun x=>(x.1.2.1,x.2.1))⟩
theorem uf:CtxM Try.prog ug:=g9 fits mixed (mC qfk (mC qcw (mC rg (mC i6 m0))))
theorem qli:ay Try.prog ug 0 (lc 2 Try.f59 39215):=lp rfl uf (.two .z (.two .z (.two (.one (.two .z (.two (.d [0,1,0,4,0,16,60,124,252,3,1023] [] []) (.two .z (.two .z (.two .z (.two .z (.two .z (.d [0,0,0,4,0,16,48,0,128,384,1008,2046,4094,8191,16383] [10,11,12,13,14] []))))))))) .z))) s0 (fun c a=>((c.1,c.2.1,(),(),(),c.2.2.1,(),(pe3 c),(pe4 c),a.1,()),(((pe5 c),(pe6 c),(pe7 c),(pe8 c),()),a.2.1,a.2.2,((pe9 c),(pe10 c),(pf11 c),()),()))) (fun y=>((y.1.1,y.1.2.1,(pe5 y.1),y.2.1.1,y.2.1.2.1,y.2.1.2.2.1,(pe3 y.2.1)),(y.2.2.1,(pe3 y))))
theorem qlj:ay Try.prog ug 1 (lc 0 Try.f59 303):=lp rfl uf (.two .z (.two (.one (.two .z (.two .z (.s 0)))) .z)) (sC qli s0) (fun c a=>((c.1,c.2.1,(),(),(),a.1,()),((c.2.2.1,(pe3 c),(pe4 c),(pf5 c),()),a.2.1,a.2.2,()))) (fun y=>((),y.2.1))
abbrev qcx:Mdl:=(ar (.cons (.d false a8.ty) (.cons (.d false (.slice .str)) (.cons (.d false qT0) .nil))) [] [] 2 qbn (B:=(Bool×(List af))) (fun b=>(((),b.1,()),(b.2,()))) (fun a=>qdv a.1.1 a.1.2.1 a.1.2.2.1))
theorem qji:MdlOK Try.prog 59 qcx:=g8 Try.func59 rfl uf (.two .z (.two .z (.two .z (.two .z (.two (.two .z (.s 1)) .z))))) (sC qlj s0)
def qe7:Shp:=⟨[qkr],[]⟩
abbrev qtu:Ctx (Bool):=⟨9,tt,false,false,[],f8 [],gv [],bn 9 tt [] [.tmp 3] qe7 (fun x=>x.1.1)⟩
theorem qtt:CtxM Try.prog qtu:=g9 fits mixed m0
abbrev qay:Mdl:=(ar (.cons (.d false af.ty) (.cons (.rp false (.slice .str)) .nil)) [] [] 1 qe7 (B:=Bool) (fun b=>((b,()),(()))) (fun a=>qco a.1.1 a.1.2.1))
theorem qdp:MdlOK Try.prog 66 qay:=g8 Try.func66 rfl qtt .z s0
def db:Shp:=⟨[qu2],[]⟩
abbrev dj:Ctx (Int):=⟨19,tt,false,false,[],f8 [(66,qay)],gv [ao _ 19 [] ir (C:=((List af)×(List ByteArray)×Int)) (S:=Int) (fun x=>((x.1.1,x.1.2.1.1,x.1.2.2.1),(pe3 x.1))) iq (CE:=Unit) (E:=Unit) (fun c e=>((()),(()))) (fun c=>()) (fun{R} c a nx dn rt=>cu c.1 c.2.1 c.2.2 a nx dn rt)],bn 19 tt [] [.tmp 4] db (fun x=>x.1.1)⟩
theorem dh:CtxM Try.prog dj:=g9 fits mixed (mC qdp m0)
theorem i3:ay Try.prog dj 0 (lc 0 Try.f60 37):=lp rfl dh .z s0 (fun c a=>((c.1,(c.2.1,()),c.2.2,a,()),(()))) (fun y=>((),()))
abbrev di:Mdl:=(ar (.cons (.d false (.slice af.ty)) (.cons (.fn 66 (.cons (.rp false (.slice .str)) .nil)) .nil)) [] [] 1 db (B:=Int) (fun b=>((b,()),(()))) (fun a=>dm a.1.1 a.1.2.1.1))
theorem iu:MdlOK Try.prog 60 di:=g8 Try.func60 rfl dh (.two .z (.two (.two .z (.s 0)) .z)) (sC i3 s0)
def cr:Shp:=⟨[jb9],[qth]⟩
abbrev da:Ctx ((List af)):=⟨42,tt,false,false,[false],f8 [(60,di),(66,qay)],gv [ao _ 42 [false] ib (C:=(List ByteArray)) (S:=(Int×Int×(List af))) (fun x=>(x.1.2.1.1,(x.1.2.2.1,(pe3 x.1),x.2.1))) ia (CE:=Unit) (E:=(Int×(List af))) (fun c e=>(((),e.1,()),(e.2,()))) (fun c=>()) (fun{R} c a nx dn rt=>cn c a.1 a.2.1 a.2.2 nx dn rt)],bn 42 tt [false] [.tmp 4] cr (fun x=>x.2.1)⟩
theorem c8:CtxM Try.prog da:=g9 fits mixed (mC iu (mC qdp m0))
theorem io:ay Try.prog da 0 (lc 0 Try.f65 151):=lp rfl c8 .z s0 (fun c a=>(((),(c,()),a.1,a.2.1,()),(a.2.2,()))) (fun y=>((),(y.1.2.1,y.2.1)))
abbrev c9:Mdl:=(ar (.cons (.own 0) (.cons (.fn 66 (.cons (.rp false (.slice .str)) .nil)) .nil)) [qth] [false] 1 cr (B:=(List af)) (fun b=>(((),()),(b,()))) (fun a=>dg a.1.2.1.1 a.2.1))
theorem ic:MdlOK Try.prog 65 c9:=g8 Try.func65 rfl c8 (.two .z (.two .z (.two .z (.two (.two .z (.s 0)) .z)))) (sC io s0)
def qdw:Shp:=⟨[],[qnu, .cs 38 1 1 (.cons (.own 3) .nil),qoc,qd8]⟩
abbrev qq7:Ctx (((List (ByteArray×Bool))×qL2)):=⟨16,tt,false,false,[true,true,true,false],f8 [(93,qbx)],gv [],bn 16 tt [true,true,true,false] [] qdw (fun x=>((pe3 x),(pe4 x)))⟩
theorem qq6:CtxM Try.prog qq7:=g9 fits mixed (mC qcw m0)
abbrev qff:Mdl:=(ar (.cons (.d true qT1) (.cons (.ptr 0) (.cons (.ptr 1) .nil))) [qnu, .cs 38 1 1 (.cons (.own 3) .nil),qoc,qd8] [true,true,true,false] 0 qdw (B:=((List (ByteArray×Bool))×qL2)) (fun b=>((()),(((),()),((),()),b.1,b.2,()))) (fun a=>qaz a.1.1 (pe3 a) (pe4 a)))
theorem qnb:MdlOK Try.prog 95 qff:=g8 Try.func95 rfl qq6 (.two (.d [0,0,2,7,15] [] []) (.two (.two (.d [0,0,2,7] [3] []) .z) .z)) s0
def qhn:Shp:=⟨[(0, .own 1),jt5],[qd8,qd8]⟩
abbrev wi:Ctx ((Bool×qL2×qL2)):=⟨61,tt,false,false,[true],f8 [(95,qff),(94,qk)],gv [ao _ 61 [true] qq1 (C:=(Int×Int×qL2×Int×(List ae)×Int×Int)) (S:=(Int×qL2×(List (ByteArray×Bool)))) (fun x=>((x.1.1,(pe5 x.1),x.2.1,x.2.2.1.1,x.2.2.1.2.1,x.2.2.1.2.2.1,(pe3 x.2.2.1)),((pe6 x.1),(pe5 x),(pe6 x)))) qq0 (CE:=(Int×qL2×Int×(List ae)×Int×Int)) (E:=(qL2×(List (ByteArray×Bool)))) (fun c e=>((c.1,(),(),((),(),()),()),(c.2.1,(c.2.2.1,(pe3 c),(pe4 c),(pf5 c),()),((),()),((),()),e.1,e.2,()))) (fun c=>(c.1,c.2.2.1,(pe3 c),(pe4 c),(pe5 c),(pf6 c))) (fun{R} c a nx dn rt=>qfc c.1 c.2.1 c.2.2.1 (pe3 c) (pe4 c) (pe5 c) (pf6 c) a.1 a.2.1 a.2.2 nx dn rt),ao _ 61 [true] qq3 (C:=(Int×Int×(List ag)×Int×qL2×Int×(List ae)×Int×Int)) (S:=(Int×qL2×(List (ByteArray×Bool)))) (fun x=>((x.1.1,(pe4 x.1),(pe5 x.1),(pe6 x.1),x.2.1,x.2.2.1.1,x.2.2.1.2.1,x.2.2.1.2.2.1,(pe3 x.2.2.1)),((pe7 x.1),(pe5 x),(pe6 x)))) qq2 (CE:=(Int×Int×qL2×Int×(List ae)×Int×Int)) (E:=(qL2×(List (ByteArray×Bool)))) (fun c e=>((c.1,(),(),((),(),()),c.2.1,()),(c.2.2.1,((pe3 c),(pe4 c),(pe5 c),(pf6 c),()),((),()),((),()),e.1,e.2,()))) (fun c=>(c.1,c.2.1,(pe4 c),(pe5 c),(pe6 c),(pe7 c),(pf8 c))) (fun{R} c a nx dn rt=>qfd c.1 c.2.1 c.2.2.1 (pe3 c) (pe4 c) (pe5 c) (pe6 c) (pe7 c) (pf8 c) a.1 a.2.1 a.2.2 nx dn rt),ao _ 61 [true] qq5 (C:=(Int×qL2×Int×(List ae)×Int×Int)) (S:=(Int×qL2×(List (ByteArray×Bool)))) (fun x=>((x.1.1,x.2.1,x.2.2.1.1,x.2.2.1.2.1,x.2.2.1.2.2.1,(pe3 x.2.2.1)),((pe4 x.1),(pe5 x),(pe6 x)))) qq4 (CE:=(Int×qL2)) (E:=qL2) (fun c e=>((c.1,(),()),(c.2,((),()),e,()))) (fun c=>(c.1,c.2.1)) (fun{R} c a nx dn rt=>qfe c.1 c.2.1 c.2.2.1 (pe3 c) (pe4 c) (pf5 c) a.1 a.2.1 a.2.2 nx dn rt)],bn 61 tt [true] [.tmp 6, .tmp 7] qhn (fun x=>(x.1.2.1,x.2.1,x.2.2.1))⟩
theorem wh:CtxM Try.prog wi:=g9 fits mixed (mC qnb (mC rg m0))
theorem qt2:ay Try.prog wi 1 (lc 4 Try.f67 37471):=lp rfl wh .z s0 (fun c a=>((c.1,(),(),((),(),()),c.2.1,c.2.2.1,(pe3 c),a.1,()),((pe4 c),((pe5 c),(pe6 c),(pe7 c),(pf8 c),()),((),()),((),()),a.2.1,a.2.2,()))) (fun y=>((y.1.1,(pe4 y.1),y.2.1,y.2.2.1.1,y.2.2.1.2.1,y.2.2.1.2.2.1,(pe3 y.2.2.1)),((pe5 y),(pe6 y))))
theorem qt3:ay Try.prog wi 2 (lc 2 Try.f67 607):=lp rfl wh (.two .z (.two (.one (.two (.d [0,0,0,6,14,31,63,0] [] []) (.s 1))) .z)) (sC qt2 s0) (fun c a=>((c.1,(),(),((),(),()),a.1,()),(c.2.1,(c.2.2.1,(pe3 c),(pe4 c),(pf5 c),()),((),()),((),()),a.2.1,a.2.2,()))) (fun y=>((y.1.1,y.2.1),(pe3 y)))
theorem qt1:ay Try.prog wi 0 (lc 0 Try.f67 303):=lp rfl wh .z s0 (fun c a=>((c.1,(),(),((),(),()),(),c.2.1,a.1,()),(c.2.2.1,((pe3 c),(pe4 c),(pe5 c),(pf6 c),()),((),()),((),()),a.2.1,a.2.2,()))) (fun y=>((y.1.1,y.2.1,y.2.2.1.1,y.2.2.1.2.1,y.2.2.1.2.2.1,(pe3 y.2.2.1)),((pe5 y),(pe6 y))))
abbrev qjj:Mdl:=(ar (.cons (.d false a8.ty) (.cons (.own 0) (.cons (.d false qT0) .nil))) [qd8] [true] 2 qhn (B:=(Bool×qL2×qL2)) (fun b=>(((),b.1,()),(b.2.1,b.2.2,()))) (fun a=>qee a.1.1 a.1.2.2.1 a.2.1))
theorem qq8:MdlOK Try.prog 67 qjj:=g8 Try.func67 rfl wh (.two .z (.two .z (.two .z (.two .z (.two (.two .z (.s 0)) (.two (.two .z (.s 2)) (.two (.d [0,0,2,0,14,1,63] [] []) .z))))))) (sC qt1 (sC qt3 s0))
def qjd:Shp:=⟨[jqu],[]⟩
abbrev qyq:Ctx (ByteArray):=⟨11,tt,false,false,[],f8 [(93,qbx)],gv [],bn 11 tt [] [.tmp 4] qjd (fun x=>x.1.1)⟩
theorem qyp:CtxM Try.prog qyq:=g9 fits mixed (mC qcw m0)
abbrev pt:Mdl:=(ar (.cons (.d false qT1) (.cons (.d false qT1) .nil)) [] [] 1 qjd (B:=ByteArray) (fun b=>((b,()),(()))) (fun a=>l7 a.1.1 a.1.2.1))
theorem o6:MdlOK Try.prog 81 pt:=g8 Try.func81 rfl qyp .z s0
def ql4:Shp:=⟨[jb9,jcb],[qtg]⟩
abbrev q1z:Ctx ((Int×qL1)):=⟨10,tt,false,false,[],f8 [(104,qni)],gv [],bn 10 tt [] [.tmp 2, .tmp 3] ql4 (fun x=>(x.1.2.1,x.2.1))⟩
theorem q1y:CtxM Try.prog q1z:=g9 fits mixed (mC qpf m0)
abbrev qgv:Mdl:=(ar (.cons (.d false a8.ty) .nil) [] [] 2 ql4 (B:=(Int×qL1)) (fun b=>(((),b.1,()),(b.2,()))) (fun a=>qm a.1.1))
theorem qjv:MdlOK Try.prog 105 qgv:=g8 Try.func105 rfl q1y .z s0
def xk:Shp:=⟨[qkr],[]⟩
abbrev ya:Ctx (Bool):=⟨26,tt,false,false,[],f8 [],gv [ao _ 26 [] qf6 (C:=(qL1×qL1×Int)) (S:=Int) (fun x=>((x.1.1,x.1.2.1,x.1.2.2.1),(pe3 x.1))) qf5 (CE:=Unit) (E:=Unit) (fun c e=>((()),(()))) (fun c=>()) (fun{R} c a nx dn rt=>fv c.1 c.2.1 c.2.2 a nx dn rt)],bn 26 tt [] [.tmp 4] xk (fun x=>x.1.1)⟩
theorem x9:CtxM Try.prog ya:=g9 fits mixed m0
theorem qg2:ay Try.prog ya 0 (lc 0 Try.f19 75):=lp rfl x9 (.two .z (.two .z (.two (.one (.two .z (.two (.d [0,0,3,7,0,0,48,112,255] [] []) .z))) .z))) s0 (fun c a=>((c.1,c.2.1,c.2.2,a,()),(()))) (fun y=>((),()))
abbrev bu:Mdl:=(ar (.cons (.d false qT1) (.cons (.d false qT1) .nil)) [] [] 1 xk (B:=Bool) (fun b=>((b,()),(()))) (fun a=>az a.1.1 a.1.2.1))
theorem bt:MdlOK Try.prog 19 bu:=g8 Try.func19 rfl x9 (.two .z (.two .z (.two (.two .z (.s 0)) .z))) (sC qg2 s0)
def qht:Shp:=⟨[jtv,jcb],[qtg]⟩
abbrev qju:Ctx ((Int×qL1)):=⟨30,tt,false,false,[],f8 [(49,wu),(88,qc3)],gv [ao _ 30 [] qri (C:=(qL1×(List ae)×Int)) (S:=(Int×qL1)) (fun x=>((x.1.1,x.1.2.2.1,(pe3 x.1)),((pe4 x.1),x.2.1))) qrh (CE:=Unit) (E:=qL1) (fun c e=>(((),()),(e,()))) (fun c=>()) (fun{R} c a nx dn rt=>ni c.1 c.2.1 c.2.2 a.1 a.2 nx dn rt)],bn 30 tt [] [.tmp 4, .tmp 5] qht (fun x=>(x.1.2.1,x.2.1))⟩
theorem qjt:CtxM Try.prog qju:=g9 fits mixed (mC yo (mC qfq m0))
theorem qt5:ay Try.prog qju 0 (lc 0 Try.f103 151):=lp rfl qjt .z s0 (fun c a=>((c.1,(),c.2.1,c.2.2,a.1,()),(a.2,()))) (fun y=>((),y.2.1))
abbrev wl:Mdl:=(ar (.cons (.d false a8.ty) (.cons (.d false qT1) .nil)) [] [] 2 qht (B:=(Int×qL1)) (fun b=>(((),b.1,()),(b.2,()))) (fun a=>m2 a.1.1 a.1.2.1))
theorem yn:MdlOK Try.prog 103 wl:=g8 Try.func103 rfl qjt (.two .z (.two .z (.two .z (.two (.two .z (.s 0)) .z)))) (sC qt5 s0)
def z8:Shp:=⟨[qkr],[qur,qoc]⟩
abbrev qk0:Ctx ((Bool×(List (ByteArray×Bool)))):=⟨11,tt,false,false,[true,true],f8 [(81,pt)],gv [],bn 11 tt [true,true] [.tmp 5] z8 (fun x=>(x.1.1,x.2.2.1))⟩
theorem qkz:CtxM Try.prog qk0:=g9 fits mixed (mC o6 m0)
abbrev sr:Mdl:=(ar (.cons (.d false qT1) (.cons (.d false qT1) (.cons (.ptr 0) .nil))) [qur,qoc] [true,true] 1 z8 (B:=(Bool×(List (ByteArray×Bool)))) (fun b=>((b.1,()),(((),()),b.2,()))) (fun a=>ue a.1.1 a.1.2.1 a.2.2.1))
theorem x7:MdlOK Try.prog 96 sr:=g8 Try.func96 rfl qkz (.two .z (.two (.d [0,0,0,6,15,31] [] []) .z)) s0
def qab:Shp:=⟨[qkr],[qs8,qnu,qoc]⟩
abbrev qk5:Ctx ((Bool×(List (ByteArray×Bool)))):=⟨24,tt,false,false,[true,true,true],f8 [(96,sr)],gv [],bn 24 tt [true,true,true] [.tmp 6] qab (fun x=>(x.1.1,(pe3 x)))⟩
theorem qk4:CtxM Try.prog qk5:=g9 fits mixed (mC x7 m0)
abbrev qbk:Mdl:=(ar (.cons (.d false ag.ty) (.cons (.rp false a8.ty) (.cons (.rp false .str) (.cons (.ptr 0) (.cons (.rp false ag.ty) .nil))))) [qs8,qnu,qoc] [true,true,true] 1 qab (B:=(Bool×(List (ByteArray×Bool)))) (fun b=>((b.1,()),((((),()),()),((),()),b.2,()))) (fun a=>qcr a.1.1 a.1.2.1 a.1.2.2.1 (pe4 a.1) (pe3 a)))
theorem qig:MdlOK Try.prog 107 qbk:=g8 Try.func107 rfl qk4 (.two .z (.two (.d [0,1,0,4,15,31,63,0,255,511,1023,1023,3071,1023,9215,32767,65535,131071] [15,16,17] []) .z)) s0
def dy:Shp:=⟨[qu2],[qs8,qnu,qoc]⟩
abbrev ee:Ctx ((Int×(List (ByteArray×Bool)))):=⟨19,tt,false,false,[true,true,true],f8 [(107,qbk)],gv [ao _ 19 [true,true,true] kb (C:=((List ag)×a8×ByteArray×ag×Int)) (S:=(Int×(List (ByteArray×Bool)))) (fun x=>((x.1.1,x.1.2.1.1,x.1.2.1.2.1,(pe3 x.1.2.1),x.1.2.2.1),((pe3 x.1),(pe3 x)))) j9 (CE:=Unit) (E:=(List (ByteArray×Bool))) (fun c e=>((()),((((),()),()),((),()),e,()))) (fun c=>()) (fun{R} c a nx dn rt=>dq c.1 c.2.1 c.2.2.1 (pe3 c) (pf4 c) a.1 a.2 nx dn rt)],bn 19 tt [true,true,true] [.tmp 4] dy (fun x=>(x.1.1,(pe3 x)))⟩
theorem ec:CtxM Try.prog ee:=g9 fits mixed (mC qig m0)
theorem la:ay Try.prog ee 0 (lc 0 Try.f118 37):=lp rfl ec .z s0 (fun c a=>((c.1,(c.2.1,c.2.2.1,(),(pe3 c),()),(pf4 c),a.1,()),((((),()),()),((),()),a.2,()))) (fun y=>((),(pe3 y)))
abbrev ed:Mdl:=(ar (.cons (.d false (.slice ag.ty)) (.cons (.fn 107 (.cons (.rp false a8.ty) (.cons (.rp false .str) (.cons (.ptr 0) (.cons (.rp false ag.ty) .nil))))) .nil)) [qs8,qnu,qoc] [true,true,true] 1 dy (B:=(Int×(List (ByteArray×Bool)))) (fun b=>((b.1,()),((((),()),()),((),()),b.2,()))) (fun a=>eh a.1.1 a.1.2.1.1 a.1.2.1.2.1 (pe3 a.1.2.1) (pe3 a)))
theorem kc:MdlOK Try.prog 118 ed:=g8 Try.func118 rfl ec (.two .z (.two (.two .z (.s 0)) .z)) (sC la s0)
def df:Shp:=⟨[qkr],[qs8,qnu,qoc]⟩
abbrev jr:Ctx ((Bool×(List (ByteArray×Bool)))):=⟨9,tt,false,false,[true,true,true],f8 [(118,ed)],gv [],bn 9 tt [true,true,true] [.tmp 4] df (fun x=>(x.1.1,(pe3 x)))⟩
theorem jq:CtxM Try.prog jr:=g9 fits mixed (mC kc m0)
abbrev dl:Mdl:=(ar (.cons (.d false (.slice ag.ty)) (.cons (.fn 107 (.cons (.rp false a8.ty) (.cons (.rp false .str) (.cons (.ptr 0) (.cons (.rp false ag.ty) .nil))))) .nil)) [qs8,qnu,qoc] [true,true,true] 1 df (B:=(Bool×(List (ByteArray×Bool)))) (fun b=>((b.1,()),((((),()),()),((),()),b.2,()))) (fun a=>b8 a.1.1 a.1.2.1.1 a.1.2.1.2.1 (pe3 a.1.2.1) (pe3 a)))
theorem iy:MdlOK Try.prog 106 dl:=g8 Try.func106 rfl jq .z s0
def qcu:Shp:=⟨[qkr],[qur,qoc]⟩
abbrev wg:Ctx ((Bool×(List (ByteArray×Bool)))):=⟨85,tt,false,false,[true,true],f8 [(105,qgv),(19,bu),(94,qk),(103,wl),(96,sr),(106,dl)],gv [ao _ 85 [true,true] qlc (C:=(qL1×(List ag)×(List ag)×Int×Int×(List ae)×Int×Int×Int×(List ae)×Int×Int)) (S:=(Int×(List (ByteArray×Bool)))) (fun x=>((x.1.1,(pe4 x.1),(pe5 x.1),(pe6 x.1),(pe3 x).1,(pe3 x).2.1,(pe3 x).2.2.1,(pe3 (pe3 x)),(pe4 x).1,(pe4 x).2.1,(pe4 x).2.2.1,(pe3 (pe4 x))),((pe7 x.1),x.2.2.1))) qlb (CE:=Unit) (E:=(List (ByteArray×Bool))) (fun c e=>((()),(((),()),e,()))) (fun c=>()) (fun{R} c a nx dn rt=>qbl c.1 c.2.1 c.2.2.1 (pe3 c) (pe4 c) (pe5 c) (pe6 c) (pe7 c) (pe8 c) (pe9 c) (pe10 c) (pf11 c) a.1 a.2 nx dn rt),qiw _ 85 [true,true] qle (A:=(qL1×qL1×(List (ByteArray×Bool))×Int×(List ae)×Int×Int×Int×(List ae)×Int×Int)) (fun x=>(x.1.1,x.1.2.1,x.2.2.1,(pe3 x).1,(pe3 x).2.1,(pe3 x).2.2.1,(pe3 (pe3 x)),(pe4 x).1,(pe4 x).2.1,(pe4 x).2.2.1,(pe3 (pe4 x)))) qld (CE:=Unit) (E:=Unit) (fun c e=>((()),(()))) (fun c=>()) (fun{R} c dn rt=>qbm c.1 c.2.1 c.2.2.1 (pe3 c) (pe4 c) (pe5 c) (pe6 c) (pe7 c) (pe8 c) (pe9 c) (pf10 c) dn rt)],bn 85 tt [true,true] [.tmp 10] qcu (fun x=>(x.1.1,x.2.2.1))⟩
theorem we:CtxM Try.prog wg:=g9 fits mixed (mC qjv (mC bt (mC rg (mC yn (mC x7 (mC iy m0))))))
theorem qm8:ay Try.prog wg 0 (lc 0 Try.f84 4863):=lp rfl we .z s0 (fun c a=>((c.1,(),(),(),c.2.1,c.2.2.1,(pe3 c),a.1,()),(((),()),a.2,((pe4 c),(pe5 c),(pe6 c),(pe7 c),()),((pe8 c),(pe9 c),(pe10 c),(pf11 c),()),(((),()),()),()))) (fun y=>((),y.2.2.1))
theorem qm9:ay Try.prog wg 1 (jc Try.f84 31):=jn rfl we (.two .z (.two .z (.two .z (.two .z (.two (.two .z (.s 0)) .z))))) (sC qm8 s0) (fun c=>((c.1,c.2.1,(),(),(),()),(((),()),c.2.2.1,((pe3 c),(pe4 c),(pe5 c),(pe6 c),()),((pe7 c),(pe8 c),(pe9 c),(pf10 c),()),(((),()),()),()))) (fun y=>((),()))
abbrev qdt:Mdl:=(ar (.cons (.d false a8.ty) (.cons (.d false a8.ty) (.cons (.d false qT1) (.cons (.d false qT1) (.cons (.fn 96 (.cons (.ptr 0) .nil)) .nil))))) [qur,qoc] [true,true] 1 qcu (B:=(Bool×(List (ByteArray×Bool)))) (fun b=>((b.1,()),(((),()),b.2,()))) (fun a=>qfa a.1.1 a.1.2.1 a.1.2.2.1 (pe3 a.1) a.2.2.1))
theorem qlf:MdlOK Try.prog 84 qdt:=g8 Try.func84 rfl we (.two .z (.two .z (.two .z (.two .z (.s 1))))) (sC qm9 s0)
def u4:Shp:=⟨[qkr],[qs8,qnu,qoc]⟩
abbrev qgt:Ctx ((Bool×(List (ByteArray×Bool)))):=⟨21,tt,false,false,[true,true,true],f8 [(84,qdt),(81,pt)],gv [],bn 21 tt [true,true,true] [.tmp 6] u4 (fun x=>(x.1.1,(pe3 x)))⟩
theorem qgs:CtxM Try.prog qgt:=g9 fits mixed (mC qlf (mC o6 m0))
abbrev oi:Mdl:=(ar (.cons (.d false ab.ty) (.cons (.rp false a8.ty) (.cons (.rp false a8.ty) (.cons (.ptr 0) (.cons (.ptr 1) .nil))))) [qs8,qnu,qoc] [true,true,true] 1 u4 (B:=(Bool×(List (ByteArray×Bool)))) (fun b=>((b.1,()),((((),()),()),((),()),b.2,()))) (fun a=>px a.1.1 a.1.2.1 a.1.2.2.1 (pe3 a)))
theorem s9:MdlOK Try.prog 98 oi:=g8 Try.func98 rfl qgs (.two .z (.two .z (.two (.d [0,0,2,0,8,30,63] [6] []) .z))) s0
def jx:Shp:=⟨[qu2],[qs8,qnu,qoc]⟩
abbrev k6:Ctx ((Int×(List (ByteArray×Bool)))):=⟨19,tt,false,false,[true,true,true],f8 [(98,oi)],gv [ao _ 19 [true,true,true] r0 (C:=((List ab)×a8×a8×Int)) (S:=(Int×(List (ByteArray×Bool)))) (fun x=>((x.1.1,x.1.2.1.1,x.1.2.1.2.1,x.1.2.2.1),((pe3 x.1),(pe3 x)))) rz (CE:=Unit) (E:=(List (ByteArray×Bool))) (fun c e=>((()),((((),()),()),((),()),e,()))) (fun c=>()) (fun{R} c a nx dn rt=>ja c.1 c.2.1 c.2.2.1 c.2.2.2 a.1 a.2 nx dn rt)],bn 19 tt [true,true,true] [.tmp 4] jx (fun x=>(x.1.1,(pe3 x)))⟩
theorem ky:CtxM Try.prog k6:=g9 fits mixed (mC s9 m0)
theorem sx:ay Try.prog k6 0 (lc 0 Try.f73 37):=lp rfl ky .z s0 (fun c a=>((c.1,(c.2.1,c.2.2.1,(),(),()),c.2.2.2,a.1,()),((((),()),()),((),()),a.2,()))) (fun y=>((),(pe3 y)))
abbrev kz:Mdl:=(ar (.cons (.d false (.slice ab.ty)) (.cons (.fn 98 (.cons (.rp false a8.ty) (.cons (.rp false a8.ty) (.cons (.ptr 0) (.cons (.ptr 1) .nil))))) .nil)) [qs8,qnu,qoc] [true,true,true] 1 jx (B:=(Int×(List (ByteArray×Bool)))) (fun b=>((b.1,()),((((),()),()),((),()),b.2,()))) (fun a=>lg a.1.1 a.1.2.1.1 a.1.2.1.2.1 (pe3 a)))
theorem sc:MdlOK Try.prog 73 kz:=g8 Try.func73 rfl ky (.two .z (.two (.two .z (.s 0)) .z)) (sC sx s0)
def i9:Shp:=⟨[jb9],[qp2,q5t,q9o,qoc]⟩
abbrev ju:Ctx (((List ab)×(List (ByteArray×Bool)))):=⟨42,tt,false,false,[false,true,true,true],f8 [(73,kz),(98,oi)],gv [ao _ 42 [false,true,true,true] qs (C:=(a8×a8)) (S:=(Int×Int×(List ab)×(List (ByteArray×Bool)))) (fun x=>((x.1.2.1.1,x.1.2.1.2.1),(x.1.2.2.1,(pe3 x.1),x.2.1,(pe4 x)))) qr (CE:=Unit) (E:=(Int×(List ab)×(List (ByteArray×Bool)))) (fun c e=>(((),e.1,()),(e.2.1,(((),()),()),((),()),e.2.2,()))) (fun c=>()) (fun{R} c a nx dn rt=>il c.1 c.2 a.1 a.2.1 a.2.2.1 a.2.2.2 nx dn rt)],bn 42 tt [false,true,true,true] [.tmp 4] i9 (fun x=>(x.2.1,(pe4 x)))⟩
theorem js:CtxM Try.prog ju:=g9 fits mixed (mC sc (mC s9 m0))
theorem ru:ay Try.prog ju 0 (lc 0 Try.f97 151):=lp rfl js .z s0 (fun c a=>(((),(c.1,c.2,(),(),()),a.1,a.2.1,()),(a.2.2.1,(((),()),()),((),()),a.2.2.2,()))) (fun y=>((),(y.1.2.1,y.2.1,(pe4 y))))
abbrev jt:Mdl:=(ar (.cons (.own 0) (.cons (.fn 98 (.cons (.rp false a8.ty) (.cons (.rp false a8.ty) (.cons (.ptr 1) (.cons (.ptr 2) .nil))))) .nil)) [qp2,q5t,q9o,qoc] [false,true,true,true] 1 i9 (B:=((List ab)×(List (ByteArray×Bool)))) (fun b=>(((),()),(b.1,(((),()),()),((),()),b.2,()))) (fun a=>ko a.1.2.1.1 a.1.2.1.2.1 a.2.1 (pe4 a)))
theorem qt:MdlOK Try.prog 97 jt:=g8 Try.func97 rfl js (.two .z (.two .z (.two .z (.two (.two .z (.s 0)) .z)))) (sC ru s0)
def qcp:Shp:=⟨[(0, .own 2)],[qd8,qd8,qp2]⟩
abbrev p0:Ctx ((qL2×qL2×(List ab))):=⟨55,tt,false,false,[true,true],f8 [(81,pt),(97,jt)],gv [ao _ 55 [true,true] qku (C:=(qL1×Int×Int×Int×qL2×qL2×Int×(List ae)×Int×Int×Int×(List ae)×Int×Int)) (S:=(Int×(List ab)×(List (ByteArray×Bool)))) (fun x=>(((pe5 x.1),(pe7 x.1),(pe8 x.1),(pe10 x.1),x.2.1,x.2.2.1,(pe3 x).1,(pe3 x).2.1,(pe3 x).2.2.1,(pe3 (pe3 x)),(pe4 x).1,(pe4 x).2.1,(pe4 x).2.2.1,(pe3 (pe4 x))),((pe11 x.1),(pe5 x),(pe7 x)))) qkt (CE:=(Int×Int×qL2×qL2×Int×(List ae)×Int×Int×Int×(List ae)×Int×Int)) (E:=((List ab)×(List (ByteArray×Bool)))) (fun c e=>(((),(),(),(),(),(),c.1,c.2.1,()),(c.2.2.1,(pe3 c),((pe4 c),(pe5 c),(pe6 c),(pe7 c),()),((pe8 c),(pe9 c),(pe10 c),(pf11 c),()),e.1,((),()),e.2,()))) (fun c=>(c.2.1,c.2.2.1,(pe4 c),(pe5 c),(pe6 c),(pe7 c),(pe8 c),(pe9 c),(pe10 c),(pe11 c),(pe12 c),(pf13 c))) (fun{R} c a nx dn rt=>qbg c.1 c.2.1 c.2.2.1 (pe3 c) (pe4 c) (pe5 c) (pe6 c) (pe7 c) (pe8 c) (pe9 c) (pe10 c) (pe11 c) (pe12 c) (pf13 c) a.1 a.2.1 a.2.2 nx dn rt),ao _ 55 [true,true] qkw (C:=(Int×qL2×qL2×Int×(List ae)×Int×Int×Int×(List ae)×Int×Int)) (S:=(Int×(List ab)×(List (ByteArray×Bool)))) (fun x=>(((pe6 x.1),x.2.1,x.2.2.1,(pe3 x).1,(pe3 x).2.1,(pe3 x).2.2.1,(pe3 (pe3 x)),(pe4 x).1,(pe4 x).2.1,(pe4 x).2.2.1,(pe3 (pe4 x))),((pe7 x.1),(pe5 x),(pe7 x)))) qkv (CE:=(qL2×qL2×Int×(List ae)×Int×Int×Int×(List ae)×Int×Int)) (E:=((List ab)×(List (ByteArray×Bool)))) (fun c e=>(((),(),(),(),()),(c.1,c.2.1,(c.2.2.1,(pe3 c),(pe4 c),(pe5 c),()),((pe6 c),(pe7 c),(pe8 c),(pf9 c),()),e.1,((),()),e.2,()))) (fun c=>(c.2.1,c.2.2.1,(pe3 c),(pe4 c),(pe5 c),(pe6 c),(pe7 c),(pe8 c),(pe9 c),(pf10 c))) (fun{R} c a nx dn rt=>qbh c.1 c.2.1 c.2.2.1 (pe3 c) (pe4 c) (pe5 c) (pe6 c) (pe7 c) (pe8 c) (pe9 c) (pf10 c) a.1 a.2.1 a.2.2 nx dn rt),ao _ 55 [true,true] qky (C:=(qL2×qL2×Int×(List ae)×Int×Int×Int×(List ae)×Int×Int)) (S:=(Bool×(List ab)×(List (ByteArray×Bool)))) (fun x=>((x.2.1,x.2.2.1,(pe3 x).1,(pe3 x).2.1,(pe3 x).2.2.1,(pe3 (pe3 x)),(pe4 x).1,(pe4 x).2.1,(pe4 x).2.2.1,(pe3 (pe4 x))),((pe5 x.1),(pe5 x),(pe8 x)))) qkx (CE:=(qL2×qL2)) (E:=(List ab)) (fun c e=>(((),()),(c.1,c.2,e,()))) (fun c=>(c.1,c.2.1)) (fun{R} c a nx dn rt=>qbi c.1 c.2.1 c.2.2.1 (pe3 c) (pe4 c) (pe5 c) (pe6 c) (pe7 c) (pe8 c) (pf9 c) a.1 a.2.1 a.2.2 nx dn rt)],bn 55 tt [true,true] [.tmp 8] qcp (fun x=>(x.2.1,x.2.2.1,(pe3 x)))⟩
theorem pz:CtxM Try.prog p0:=g9 fits mixed (mC o6 (mC qt m0))
theorem qm2:ay Try.prog p0 0 (lc 2 Try.f68 39319):=lp rfl pz (.two .z (.two .z (.two (.one (.two .z (.two .z (.d [0,0,0,6,15] [4] [])))) .z))) s0 (fun c a=>(((),(),(),(),(),c.1,(),c.2.1,c.2.2.1,(),(pe3 c),a.1,()),((pe4 c),(pe5 c),((pe6 c),(pe7 c),(pe8 c),(pe9 c),()),((pe10 c),(pe11 c),(pe12 c),(pf13 c),()),a.2.1,((),()),a.2.2,()))) (fun y=>(((pe6 y.1),(pe7 y.1),y.2.1,y.2.2.1,(pe3 y).1,(pe3 y).2.1,(pe3 y).2.2.1,(pe3 (pe3 y)),(pe4 y).1,(pe4 y).2.1,(pe4 y).2.2.1,(pe3 (pe4 y))),((pe5 y),(pe7 y))))
theorem qm4:ay Try.prog p0 2 (lc 4 Try.f68 607):=lp rfl pz .z s0 (fun c a=>(((),(),(),(),(),a.1,()),(c.1,c.2.1,(c.2.2.1,(pe3 c),(pe4 c),(pe5 c),()),((pe6 c),(pe7 c),(pe8 c),(pf9 c),()),a.2.1,((),()),(((),()),()),a.2.2,()))) (fun y=>((y.2.1,y.2.2.1),(pe3 y)))
theorem qm3:ay Try.prog p0 1 (lc 0 Try.f68 151):=lp rfl pz (.two .z (.two .z (.two (.one (.two .z (.two .z (.s 0)))) .z))) (sC qm2 s0) (fun c a=>(((),(),(),(),(),(),c.1,a.1,()),(c.2.1,c.2.2.1,((pe3 c),(pe4 c),(pe5 c),(pe6 c),()),((pe7 c),(pe8 c),(pe9 c),(pf10 c),()),a.2.1,((),()),a.2.2,()))) (fun y=>((y.2.1,y.2.2.1,(pe3 y).1,(pe3 y).2.1,(pe3 y).2.2.1,(pe3 (pe3 y)),(pe4 y).1,(pe4 y).2.1,(pe4 y).2.2.1,(pe3 (pe4 y))),((pe5 y),(pe7 y))))
abbrev qdq:Mdl:=(ar (.cons (.d false a8.ty) (.cons (.d false a8.ty) (.cons (.own 0) (.cons (.own 1) .nil)))) [qd8,qd8] [true,true] 1 qcp (B:=(qL2×qL2×(List ab))) (fun b=>(((),()),(b.1,b.2.1,b.2.2,()))) (fun a=>qe9 a.1.1 a.1.2.1 a.2.1 a.2.2.1))
theorem qk1:MdlOK Try.prog 68 qdq:=g8 Try.func68 rfl pz (.two .z (.two .z (.two .z (.two (.two .z (.s 1)) (.two .z (.two (.two .z (.s 2)) .z)))))) (sC qm3 (sC qm4 s0))
def qe8:Shp:=⟨[qkr],[]⟩
abbrev qtw:Ctx (Bool):=⟨16,tt,false,false,[],f8 [(19,bu)],gv [],bn 16 tt [] [.tmp 4] qe8 (fun x=>x.1.1)⟩
theorem qtv:CtxM Try.prog qtw:=g9 fits mixed (mC bt m0)
abbrev qhk:Mdl:=(ar (.cons (.d false ab.ty) (.cons (.rp false qT1) (.cons (.rp false af.ty) .nil))) [] [] 1 qe8 (B:=Bool) (fun b=>((b,()),(()))) (fun a=>qja a.1.1 a.1.2.1 a.1.2.2.1))
theorem qot:MdlOK Try.prog 69 qhk:=g8 Try.func69 rfl qtv .z s0
def lu:Shp:=⟨[qu2],[]⟩
abbrev mu:Ctx (Int):=⟨19,tt,false,false,[],f8 [(69,qhk)],gv [ao _ 19 [] us (C:=((List ab)×qL1×af×Int)) (S:=Int) (fun x=>((x.1.1,x.1.2.1.1,x.1.2.1.2.1,x.1.2.2.1),(pe3 x.1))) ur (CE:=Unit) (E:=Unit) (fun c e=>((()),(()))) (fun c=>()) (fun{R} c a nx dn rt=>lf c.1 c.2.1 c.2.2.1 c.2.2.2 a nx dn rt)],bn 19 tt [] [.tmp 4] lu (fun x=>x.1.1)⟩
theorem mr:CtxM Try.prog mu:=g9 fits mixed (mC qot m0)
theorem vk:ay Try.prog mu 0 (lc 0 Try.f73 37):=lp rfl mr .z s0 (fun c a=>((c.1,(c.2.1,c.2.2.1,()),c.2.2.2,a,()),(()))) (fun y=>((),()))
abbrev mt:Mdl:=(ar (.cons (.d false (.slice ab.ty)) (.cons (.fn 69 (.cons (.rp false qT1) (.cons (.rp false af.ty) .nil))) .nil)) [] [] 1 lu (B:=Int) (fun b=>((b,()),(()))) (fun a=>na a.1.1 a.1.2.1.1 a.1.2.1.2.1))
theorem ut:MdlOK Try.prog 73 mt:=g8 Try.func73 rfl mr (.two .z (.two (.two .z (.s 0)) .z)) (sC vk s0)
def jl:Shp:=⟨[qkr],[]⟩
abbrev tm:Ctx (Bool):=⟨9,tt,false,false,[],f8 [(73,mt)],gv [],bn 9 tt [] [.tmp 4] jl (fun x=>x.1.1)⟩
theorem tl:CtxM Try.prog tm:=g9 fits mixed (mC ut m0)
abbrev kl:Mdl:=(ar (.cons (.d false (.slice ab.ty)) (.cons (.fn 69 (.cons (.rp false qT1) (.cons (.rp false af.ty) .nil))) .nil)) [] [] 1 jl (B:=Bool) (fun b=>((b,()),(()))) (fun a=>ld a.1.1 a.1.2.1.1 a.1.2.1.2.1))
theorem rn:MdlOK Try.prog 36 kl:=g8 Try.func36 rfl tl .z s0
def qi9:Shp:=⟨[(0, .d true du.ty),jcb],[]⟩
abbrev zh:Ctx ((du×Int)):=⟨138,tt,false,true,[],f8 [(58,qjb),(59,qcx),(65,c9),(67,qjj),(68,qdq),(36,kl),(50,gn)],gv [ao _ 138 [] qto (C:=(Int×(List af)×(List af)×Int×Int×(List ae)×Int×Int×Int×(List ae)×Int×Int×qL1×qL1×(List ab)×qL1)) (S:=(Int×qL2)) (fun x=>((x.1.1,(pe5 x.1),(pe7 x.1),(pe8 x.1),x.2.1.1,x.2.1.2.1,x.2.1.2.2.1,(pe3 x.2.1),x.2.2.1.1,x.2.2.1.2.1,x.2.2.1.2.2.1,(pe3 x.2.2.1),(pe3 x).1,(pe3 x).2.1,(pe3 x).2.2.1,(pe4 x).1),((pe9 x.1),(pe5 x)))) qtn (CE:=(Int×(List af)×Int×(List ae)×Int×Int×Int×(List ae)×Int×Int×qL1×qL1×(List ab)×qL1)) (E:=qL2) (fun c e=>((c.1,(),(),(),(),c.2.1,(),()),((c.2.2.1,(pe3 c),(pe4 c),(pe5 c),()),((pe6 c),(pe7 c),(pe8 c),(pe9 c),()),((pe10 c),(pe11 c),(pe12 c),()),((pf13 c),()),e,()))) (fun c=>(c.1,c.2.1,(pe4 c),(pe5 c),(pe6 c),(pe7 c),(pe8 c),(pe9 c),(pe10 c),(pe11 c),(pe12 c),(pe13 c),(pe14 c),(pf15 c))) (fun{R} c a nx dn rt=>qhh c.1 c.2.1 c.2.2.1 (pe3 c) (pe4 c) (pe5 c) (pe6 c) (pe7 c) (pe8 c) (pe9 c) (pe10 c) (pe11 c) (pe12 c) (pe13 c) (pe14 c) (pf15 c) a.1 a.2 nx dn rt),ao _ 138 [] qtq (C:=((List ab)×Int×qL1×qL1×(List ab)×qL1×qL1)) (S:=(Int×(List ab))) (fun x=>((x.1.2.2.1,(pe3 x.1),x.2.1.1,x.2.1.2.1,x.2.1.2.2.1,x.2.2.1.1,x.2.2.1.2.1),((pe4 x.1),(pe3 x)))) qtp (CE:=(qL1×qL1×(List ab)×qL1×qL1)) (E:=(List ab)) (fun c e=>(((),(),()),((c.1,c.2.1,c.2.2.1,()),((pe3 c),(pf4 c),(),()),e,()))) (fun c=>(c.2.2.1,(pe3 c),(pe4 c),(pe5 c),(pf6 c))) (fun{R} c a nx dn rt=>qhi c.1 c.2.1 c.2.2.1 (pe3 c) (pe4 c) (pe5 c) (pf6 c) a.1 a.2 nx dn rt),ao _ 138 [] qts (C:=((List ab)×(List af)×Int×qL1×qL1×(List ab)×qL1)) (S:=Int) (fun x=>((x.1.2.2.1,(pe3 x.1),(pe4 x.1),x.2.1.1,x.2.1.2.1,x.2.1.2.2.1,x.2.2.1.1),(pe5 x.1))) qtr (CE:=(qL1×qL1×(List ab))) (E:=Unit) (fun c e=>(((),()),((c.1,c.2.1,c.2.2,()),()))) (fun c=>((pe3 c),(pe4 c),(pe5 c))) (fun{R} c a nx dn rt=>qhj c.1 c.2.1 c.2.2.1 (pe3 c) (pe4 c) (pe5 c) (pf6 c) a nx dn rt)],bn 138 tt [] [.cell 8 28, .tmp 9] qi9 (fun x=>(x.1.1,x.1.2.1))⟩
theorem zg:CtxM Try.prog zh:=g9 fits mixed (mC qqv (mC qji (mC ic (mC qq8 (mC qk1 (mC rn (mC i6 m0)))))))
theorem qwd:ay Try.prog zh 1 (lc 4 Try.f31 313733119):=lp rfl zg (.two .z (.two .z (.two (.one (.two .z (.d [0,1,0,4,12,0,32,124,252,508,1023,2047,4095] [10,12] []))) .z))) s0 (fun c a=>(((),(),c.1,c.2.1,a.1,()),((c.2.2.1,(pe3 c),(pe4 c),()),((pe5 c),(pf6 c),(),()),a.2,()))) (fun y=>((y.2.1.1,y.2.1.2.1,y.2.1.2.2.1,y.2.2.1.1,y.2.2.1.2.1),(pe3 y)))
theorem qwe:ay Try.prog zh 2 (lc 2 Try.f31 77823):=lp rfl zg (.two .z (.two .z (.two (.one (.two .z (.two .z (.two (.two (.d [0,1,3,0,8,31,0,127] [7] []) (.two (.two .z (.s 1)) .z)) .z)))) .z))) (sC qwd s0) (fun c a=>(((),(),c.1,c.2.1,c.2.2.1,a,()),(((pe3 c),(pe4 c),(pe5 c),()),((pf6 c),()),()))) (fun y=>((y.2.1.1,y.2.1.2.1,y.2.1.2.2.1),()))
theorem qwc:ay Try.prog zh 0 (lc 0 Try.f31 2431):=lp rfl zg .z s0 (fun c a=>((c.1,(),(),(),(),c.2.1,(),c.2.2.1,(pe3 c),a.1,()),(((pe4 c),(pe5 c),(pe6 c),(pe7 c),()),((pe8 c),(pe9 c),(pe10 c),(pe11 c),()),((pe12 c),(pe13 c),(pe14 c),()),((pf15 c),()),a.2,()))) (fun y=>((y.1.1,(pe5 y.1),y.2.1.1,y.2.1.2.1,y.2.1.2.2.1,(pe3 y.2.1),y.2.2.1.1,y.2.2.1.2.1,y.2.2.1.2.2.1,(pe3 y.2.2.1),(pe3 y).1,(pe3 y).2.1,(pe3 y).2.2.1,(pe4 y).1),(pe5 y)))
abbrev qlx:Mdl:=(ar (.cons (.d false a8.ty) (.cons (.d false a8.ty) (.cons (.d false qT1) (.cons (.d false qT0) .nil)))) [] [] 2 qi9 (B:=(du×Int)) (fun b=>((b.1,b.2,()),(()))) (fun a=>qgr a.1.1 a.1.2.1 a.1.2.2.1 (pe3 a.1)))
theorem qtx:MdlOK Try.prog 31 qlx:=g8 Try.func31 rfl zg (.two .z (.two .z (.two .z (.two .z (.two .z (.two .z (.two .z (.two (.two .z (.s 0)) (.two .z (.two .z (.two .z (.two .z (.two (.two .z (.s 2)) .z))))))))))))) (sC qwc (sC qwe s0))
def qdu:Shp:=⟨[qkr],[]⟩
abbrev qqz:Ctx (Bool):=⟨15,tt,false,false,[],f8 [(103,wl)],gv [],bn 15 tt [] [.tmp 4] qdu (fun x=>x.1.1)⟩
theorem qqy:CtxM Try.prog qqz:=g9 fits mixed (mC yn m0)
abbrev qfb:Mdl:=(ar (.cons (.d false a8.ty) (.cons (.d false qT1) .nil)) [] [] 1 qdu (B:=Bool) (fun b=>((b,()),(()))) (fun a=>o5 a.1.1 a.1.2.1))
theorem qna:MdlOK Try.prog 78 qfb:=g8 Try.func78 rfl qqy .z s0
def qdx:Shp:=⟨[qkr],[]⟩
abbrev qrc:Ctx (Bool):=⟨17,tt,false,false,[],f8 [(78,qfb)],gv [],bn 17 tt [] [.tmp 4] qdx (fun x=>x.1.1)⟩
theorem qrb:CtxM Try.prog qrc:=g9 fits mixed (mC qna m0)
abbrev qfi:Mdl:=(ar (.cons (.d false ab.ty) (.cons (.rp false a8.ty) (.cons (.rp false a8.ty) .nil))) [] [] 1 qdx (B:=Bool) (fun b=>((b,()),(()))) (fun a=>qa0 a.1.1 a.1.2.1 a.1.2.2.1))
theorem qnc:MdlOK Try.prog 77 qfi:=g8 Try.func77 rfl qrb .z s0
def lx:Shp:=⟨[qu2],[]⟩
abbrev mz:Ctx (Int):=⟨19,tt,false,false,[],f8 [(77,qfi)],gv [ao _ 19 [] uv (C:=((List ab)×a8×a8×Int)) (S:=Int) (fun x=>((x.1.1,x.1.2.1.1,x.1.2.1.2.1,x.1.2.2.1),(pe3 x.1))) uu (CE:=Unit) (E:=Unit) (fun c e=>((()),(()))) (fun c=>()) (fun{R} c a nx dn rt=>c0 c.1 c.2.1 c.2.2.1 c.2.2.2 a nx dn rt)],bn 19 tt [] [.tmp 4] lx (fun x=>x.1.1)⟩
theorem mw:CtxM Try.prog mz:=g9 fits mixed (mC qnc m0)
theorem vm:ay Try.prog mz 0 (lc 0 Try.f73 37):=lp rfl mw .z s0 (fun c a=>((c.1,(c.2.1,c.2.2.1,()),c.2.2.2,a,()),(()))) (fun y=>((),()))
abbrev my:Mdl:=(ar (.cons (.d false (.slice ab.ty)) (.cons (.fn 77 (.cons (.rp false a8.ty) (.cons (.rp false a8.ty) .nil))) .nil)) [] [] 1 lx (B:=Int) (fun b=>((b,()),(()))) (fun a=>gh a.1.1 a.1.2.1.1 a.1.2.1.2.1))
theorem uw:MdlOK Try.prog 73 my:=g8 Try.func73 rfl mw (.two .z (.two (.two .z (.s 0)) .z)) (sC vm s0)
def jm:Shp:=⟨[qkr],[]⟩
abbrev tp:Ctx (Bool):=⟨9,tt,false,false,[],f8 [(73,my)],gv [],bn 9 tt [] [.tmp 4] jm (fun x=>x.1.1)⟩
theorem tn:CtxM Try.prog tp:=g9 fits mixed (mC uw m0)
abbrev km:Mdl:=(ar (.cons (.d false (.slice ab.ty)) (.cons (.fn 77 (.cons (.rp false a8.ty) (.cons (.rp false a8.ty) .nil))) .nil)) [] [] 1 jm (B:=Bool) (fun b=>((b,()),(()))) (fun a=>fk a.1.1 a.1.2.1.1 a.1.2.1.2.1))
theorem ro:MdlOK Try.prog 36 km:=g8 Try.func36 rfl tn .z s0
def qhq:Shp:=⟨[qkr],[]⟩
abbrev qwi:Ctx (Bool):=⟨11,tt,false,false,[],f8 [(36,km)],gv [],bn 11 tt [] [.tmp 6] qhq (fun x=>x.1.1)⟩
theorem qwh:CtxM Try.prog qwi:=g9 fits mixed (mC ro m0)
abbrev qjr:Mdl:=(ar (.cons (.d false a8.ty) (.cons (.d false a8.ty) (.cons (.d false (.slice ab.ty)) .nil))) [] [] 1 qhq (B:=Bool) (fun b=>((b,()),(()))) (fun a=>zi a.1.1 a.1.2.1 a.1.2.2.1))
theorem qrd:MdlOK Try.prog 44 qjr:=g8 Try.func44 rfl qwh .z s0
def pb:Shp:=⟨[qkr],[]⟩
abbrev qf:Ctx (Bool):=⟨26,tt,false,false,[],f8 [],gv [ao _ 26 [] qaj (C:=((List ByteArray)×(List ByteArray)×Int)) (S:=Int) (fun x=>((x.1.1,x.1.2.1,x.1.2.2.1),(pe3 x.1))) qai (CE:=Unit) (E:=Unit) (fun c e=>((()),(()))) (fun c=>()) (fun{R} c a nx dn rt=>ct c.1 c.2.1 c.2.2 a nx dn rt)],bn 26 tt [] [.tmp 4] pb (fun x=>x.1.1)⟩
theorem qd:CtxM Try.prog qf:=g9 fits mixed m0
theorem qbb:ay Try.prog qf 0 (lc 0 Try.f46 75):=lp rfl qd (.two .z (.two .z (.two (.one (.two .z (.two (.d [0,0,3,7,0,0,48,112,255] [] []) .z))) .z))) s0 (fun c a=>((c.1,c.2.1,c.2.2,a,()),(()))) (fun y=>((),()))
abbrev qe:Mdl:=(ar (.cons (.d false (.slice .str)) (.cons (.d false (.slice .str)) .nil)) [] [] 1 pb (B:=Bool) (fun b=>((b,()),(()))) (fun a=>f5 a.1.1 a.1.2.1))
theorem qak:MdlOK Try.prog 46 qe:=g8 Try.func46 rfl qd (.two .z (.two .z (.two (.two .z (.s 0)) .z))) (sC qbb s0)
def qdo:Shp:=⟨[qkr],[]⟩
abbrev qqu:Ctx (Bool):=⟨15,tt,false,false,[],f8 [(19,bu)],gv [],bn 15 tt [] [.tmp 4] qdo (fun x=>x.1.1)⟩
theorem qqt:CtxM Try.prog qqu:=g9 fits mixed (mC bt m0)
abbrev qe5:Mdl:=(ar (.cons (.d false ab.ty) (.cons (.rp false qT1) (.cons (.rp false qT1) .nil))) [] [] 1 qdo (B:=Bool) (fun b=>((b,()),(()))) (fun a=>qax a.1.1 a.1.2.1 a.1.2.2.1))
theorem qmy:MdlOK Try.prog 47 qe5:=g8 Try.func47 rfl qqt .z s0
def ls:Shp:=⟨[qu2],[]⟩
abbrev mq:Ctx (Int):=⟨19,tt,false,false,[],f8 [(47,qe5)],gv [ao _ 19 [] uo (C:=((List ab)×qL1×qL1×Int)) (S:=Int) (fun x=>((x.1.1,x.1.2.1.1,x.1.2.1.2.1,x.1.2.2.1),(pe3 x.1))) um (CE:=Unit) (E:=Unit) (fun c e=>((()),(()))) (fun c=>()) (fun{R} c a nx dn rt=>cz c.1 c.2.1 c.2.2.1 c.2.2.2 a nx dn rt)],bn 19 tt [] [.tmp 4] ls (fun x=>x.1.1)⟩
theorem mn:CtxM Try.prog mq:=g9 fits mixed (mC qmy m0)
theorem vi:ay Try.prog mq 0 (lc 0 Try.f73 37):=lp rfl mn .z s0 (fun c a=>((c.1,(c.2.1,c.2.2.1,()),c.2.2.2,a,()),(()))) (fun y=>((),()))
abbrev mo:Mdl:=(ar (.cons (.d false (.slice ab.ty)) (.cons (.fn 47 (.cons (.rp false qT1) (.cons (.rp false qT1) .nil))) .nil)) [] [] 1 ls (B:=Int) (fun b=>((b,()),(()))) (fun a=>gg a.1.1 a.1.2.1.1 a.1.2.1.2.1))
theorem uq:MdlOK Try.prog 73 mo:=g8 Try.func73 rfl mn (.two .z (.two (.two .z (.s 0)) .z)) (sC vi s0)
def jk:Shp:=⟨[qkr],[]⟩
abbrev tk:Ctx (Bool):=⟨9,tt,false,false,[],f8 [(73,mo)],gv [],bn 9 tt [] [.tmp 4] jk (fun x=>x.1.1)⟩
theorem tj:CtxM Try.prog tk:=g9 fits mixed (mC uq m0)
abbrev kj:Mdl:=(ar (.cons (.d false (.slice ab.ty)) (.cons (.fn 47 (.cons (.rp false qT1) (.cons (.rp false qT1) .nil))) .nil)) [] [] 1 jk (B:=Bool) (fun b=>((b,()),(()))) (fun a=>cw a.1.1 a.1.2.1.1 a.1.2.1.2.1))
theorem rm:MdlOK Try.prog 36 kj:=g8 Try.func36 rfl tj .z s0
def x8:Shp:=⟨[qkr],[qur,qoc]⟩
abbrev qjn:Ctx ((Bool×(List (ByteArray×Bool)))):=⟨11,tt,false,false,[true,true],f8 [(81,pt)],gv [],bn 11 tt [true,true] [.tmp 5] x8 (fun x=>(x.1.1,x.2.2.1))⟩
theorem qjm:CtxM Try.prog qjn:=g9 fits mixed (mC o6 m0)
abbrev qj:Mdl:=(ar (.cons (.d false qT1) (.cons (.d false qT1) (.cons (.ptr 0) .nil))) [qur,qoc] [true,true] 1 x8 (B:=(Bool×(List (ByteArray×Bool)))) (fun b=>((b.1,()),(((),()),b.2,()))) (fun a=>ji a.1.1 a.1.2.1 a.2.2.1))
theorem wj:MdlOK Try.prog 82 qj:=g8 Try.func82 rfl qjm (.two .z (.two (.d [0,0,0,6,15,31] [] []) .z)) s0
def qaa:Shp:=⟨[qkr],[qqc,qnu,qoc]⟩
abbrev qk3:Ctx ((Bool×(List (ByteArray×Bool)))):=⟨24,tt,false,false,[true,true,true],f8 [(82,qj)],gv [],bn 24 tt [true,true,true] [.tmp 6] qaa (fun x=>(x.1.1,(pe3 x)))⟩
theorem qk2:CtxM Try.prog qk3:=g9 fits mixed (mC wj m0)
abbrev qbj:Mdl:=(ar (.cons (.d false ag.ty) (.cons (.rp false a8.ty) (.cons (.rp false .str) (.cons (.ptr 0) (.cons (.rp false ag.ty) .nil))))) [qqc,qnu,qoc] [true,true,true] 1 qaa (B:=(Bool×(List (ByteArray×Bool)))) (fun b=>((b.1,()),((((),()),()),((),()),b.2,()))) (fun a=>oj a.1.1 a.1.2.1 a.1.2.2.1 (pe4 a.1) (pe3 a)))
theorem qif:MdlOK Try.prog 107 qbj:=g8 Try.func107 rfl qk2 (.two .z (.two (.d [0,1,0,4,15,31,63,0,255,511,1023,1023,3071,1023,9215,32767,65535,131071] [15,16,17] []) .z)) s0
def dx:Shp:=⟨[qu2],[qqc,qnu,qoc]⟩
abbrev eb:Ctx ((Int×(List (ByteArray×Bool)))):=⟨19,tt,false,false,[true,true,true],f8 [(107,qbj)],gv [ao _ 19 [true,true,true] j7 (C:=((List ag)×a8×ByteArray×ag×Int)) (S:=(Int×(List (ByteArray×Bool)))) (fun x=>((x.1.1,x.1.2.1.1,x.1.2.1.2.1,(pe3 x.1.2.1),x.1.2.2.1),((pe3 x.1),(pe3 x)))) j6 (CE:=Unit) (E:=(List (ByteArray×Bool))) (fun c e=>((()),((((),()),()),((),()),e,()))) (fun c=>()) (fun{R} c a nx dn rt=>bg c.1 c.2.1 c.2.2.1 (pe3 c) (pf4 c) a.1 a.2 nx dn rt)],bn 19 tt [true,true,true] [.tmp 4] dx (fun x=>(x.1.1,(pe3 x)))⟩
theorem d9:CtxM Try.prog eb:=g9 fits mixed (mC qif m0)
theorem k8:ay Try.prog eb 0 (lc 0 Try.f118 37):=lp rfl d9 .z s0 (fun c a=>((c.1,(c.2.1,c.2.2.1,(),(pe3 c),()),(pf4 c),a.1,()),((((),()),()),((),()),a.2,()))) (fun y=>((),(pe3 y)))
abbrev ea:Mdl:=(ar (.cons (.d false (.slice ag.ty)) (.cons (.fn 107 (.cons (.rp false a8.ty) (.cons (.rp false .str) (.cons (.ptr 0) (.cons (.rp false ag.ty) .nil))))) .nil)) [qqc,qnu,qoc] [true,true,true] 1 dx (B:=(Int×(List (ByteArray×Bool)))) (fun b=>((b.1,()),((((),()),()),((),()),b.2,()))) (fun a=>cd a.1.1 a.1.2.1.1 a.1.2.1.2.1 (pe3 a.1.2.1) (pe3 a)))
theorem j8:MdlOK Try.prog 118 ea:=g8 Try.func118 rfl d9 (.two .z (.two (.two .z (.s 0)) .z)) (sC k8 s0)
def de:Shp:=⟨[qkr],[qqc,qnu,qoc]⟩
abbrev jp:Ctx ((Bool×(List (ByteArray×Bool)))):=⟨9,tt,false,false,[true,true,true],f8 [(118,ea)],gv [],bn 9 tt [true,true,true] [.tmp 4] de (fun x=>(x.1.1,(pe3 x)))⟩
theorem jo:CtxM Try.prog jp:=g9 fits mixed (mC j8 m0)
abbrev dk:Mdl:=(ar (.cons (.d false (.slice ag.ty)) (.cons (.fn 107 (.cons (.rp false a8.ty) (.cons (.rp false .str) (.cons (.ptr 0) (.cons (.rp false ag.ty) .nil))))) .nil)) [qqc,qnu,qoc] [true,true,true] 1 de (B:=(Bool×(List (ByteArray×Bool)))) (fun b=>((b.1,()),((((),()),()),((),()),b.2,()))) (fun a=>aw a.1.1 a.1.2.1.1 a.1.2.1.2.1 (pe3 a.1.2.1) (pe3 a)))
theorem iw:MdlOK Try.prog 106 dk:=g8 Try.func106 rfl jo .z s0
def qct:Shp:=⟨[qkr],[qur,qoc]⟩
abbrev wd:Ctx ((Bool×(List (ByteArray×Bool)))):=⟨85,tt,false,false,[true,true],f8 [(105,qgv),(19,bu),(94,qk),(103,wl),(82,qj),(106,dk)],gv [ao _ 85 [true,true] qk7 (C:=(qL1×(List ag)×(List ag)×Int×Int×(List ae)×Int×Int×Int×(List ae)×Int×Int)) (S:=(Int×(List (ByteArray×Bool)))) (fun x=>((x.1.1,(pe4 x.1),(pe5 x.1),(pe6 x.1),(pe3 x).1,(pe3 x).2.1,(pe3 x).2.2.1,(pe3 (pe3 x)),(pe4 x).1,(pe4 x).2.1,(pe4 x).2.2.1,(pe3 (pe4 x))),((pe7 x.1),x.2.2.1))) qk6 (CE:=Unit) (E:=(List (ByteArray×Bool))) (fun c e=>((()),(((),()),e,()))) (fun c=>()) (fun{R} c a nx dn rt=>f6 c.1 c.2.1 c.2.2.1 (pe3 c) (pe4 c) (pe5 c) (pe6 c) (pe7 c) (pe8 c) (pe9 c) (pe10 c) (pf11 c) a.1 a.2 nx dn rt),qiw _ 85 [true,true] qk9 (A:=(qL1×qL1×(List (ByteArray×Bool))×Int×(List ae)×Int×Int×Int×(List ae)×Int×Int)) (fun x=>(x.1.1,x.1.2.1,x.2.2.1,(pe3 x).1,(pe3 x).2.1,(pe3 x).2.2.1,(pe3 (pe3 x)),(pe4 x).1,(pe4 x).2.1,(pe4 x).2.2.1,(pe3 (pe4 x)))) qk8 (CE:=Unit) (E:=Unit) (fun c e=>((()),(()))) (fun c=>()) (fun{R} c dn rt=>ss c.1 c.2.1 c.2.2.1 (pe3 c) (pe4 c) (pe5 c) (pe6 c) (pe7 c) (pe8 c) (pe9 c) (pf10 c) dn rt)],bn 85 tt [true,true] [.tmp 10] qct (fun x=>(x.1.1,x.2.2.1))⟩
theorem wc:CtxM Try.prog wd:=g9 fits mixed (mC qjv (mC bt (mC rg (mC yn (mC wj (mC iw m0))))))
theorem qm5:ay Try.prog wd 0 (lc 0 Try.f84 4863):=lp rfl wc .z s0 (fun c a=>((c.1,(),(),(),c.2.1,c.2.2.1,(pe3 c),a.1,()),(((),()),a.2,((pe4 c),(pe5 c),(pe6 c),(pe7 c),()),((pe8 c),(pe9 c),(pe10 c),(pf11 c),()),(((),()),()),()))) (fun y=>((),y.2.2.1))
theorem qm6:ay Try.prog wd 1 (jc Try.f84 31):=jn rfl wc (.two .z (.two .z (.two .z (.two .z (.two (.two .z (.s 0)) .z))))) (sC qm5 s0) (fun c=>((c.1,c.2.1,(),(),(),()),(((),()),c.2.2.1,((pe3 c),(pe4 c),(pe5 c),(pe6 c),()),((pe7 c),(pe8 c),(pe9 c),(pf10 c),()),(((),()),()),()))) (fun y=>((),()))
abbrev qds:Mdl:=(ar (.cons (.d false a8.ty) (.cons (.d false a8.ty) (.cons (.d false qT1) (.cons (.d false qT1) (.cons (.fn 82 (.cons (.ptr 0) .nil)) .nil))))) [qur,qoc] [true,true] 1 qct (B:=(Bool×(List (ByteArray×Bool)))) (fun b=>((b.1,()),(((),()),b.2,()))) (fun a=>rc a.1.1 a.1.2.1 a.1.2.2.1 (pe3 a.1) a.2.2.1))
theorem qla:MdlOK Try.prog 84 qds:=g8 Try.func84 rfl wc (.two .z (.two .z (.two .z (.two .z (.s 1))))) (sC qm6 s0)
def ta:Shp:=⟨[qkr],[qqc,qnu,qoc]⟩
abbrev qfh:Ctx ((Bool×(List (ByteArray×Bool)))):=⟨15,tt,false,false,[true,true,true],f8 [(84,qds)],gv [],bn 15 tt [true,true,true] [.tmp 5] ta (fun x=>(x.1.1,(pe3 x)))⟩
theorem qfg:CtxM Try.prog qfh:=g9 fits mixed (mC qla m0)
abbrev u5:Mdl:=(ar (.cons (.d false ab.ty) (.cons (.rp false a8.ty) (.cons (.rp false a8.ty) (.cons (.ptr 0) .nil)))) [qqc,qnu,qoc] [true,true,true] 1 ta (B:=(Bool×(List (ByteArray×Bool)))) (fun b=>((b.1,()),((((),()),()),((),()),b.2,()))) (fun a=>om a.1.1 a.1.2.1 a.1.2.2.1 (pe3 a)))
theorem qdd:MdlOK Try.prog 83 u5:=g8 Try.func83 rfl qfg .z s0
def jw:Shp:=⟨[qu2],[qqc,qnu,qoc]⟩
abbrev kw:Ctx ((Int×(List (ByteArray×Bool)))):=⟨19,tt,false,false,[true,true,true],f8 [(83,u5)],gv [ao _ 19 [true,true,true] rx (C:=((List ab)×a8×a8×Int)) (S:=(Int×(List (ByteArray×Bool)))) (fun x=>((x.1.1,x.1.2.1.1,x.1.2.1.2.1,x.1.2.2.1),((pe3 x.1),(pe3 x)))) rv (CE:=Unit) (E:=(List (ByteArray×Bool))) (fun c e=>((()),((((),()),()),((),()),e,()))) (fun c=>()) (fun{R} c a nx dn rt=>ci c.1 c.2.1 c.2.2.1 c.2.2.2 a.1 a.2 nx dn rt)],bn 19 tt [true,true,true] [.tmp 4] jw (fun x=>(x.1.1,(pe3 x)))⟩
theorem kq:CtxM Try.prog kw:=g9 fits mixed (mC qdd m0)
theorem su:ay Try.prog kw 0 (lc 0 Try.f73 37):=lp rfl kq .z s0 (fun c a=>((c.1,(c.2.1,c.2.2.1,(),()),c.2.2.2,a.1,()),((((),()),()),((),()),a.2,()))) (fun y=>((),(pe3 y)))
abbrev ks:Mdl:=(ar (.cons (.d false (.slice ab.ty)) (.cons (.fn 83 (.cons (.rp false a8.ty) (.cons (.rp false a8.ty) (.cons (.ptr 0) .nil)))) .nil)) [qqc,qnu,qoc] [true,true,true] 1 jw (B:=(Int×(List (ByteArray×Bool)))) (fun b=>((b.1,()),((((),()),()),((),()),b.2,()))) (fun a=>fl a.1.1 a.1.2.1.1 a.1.2.1.2.1 (pe3 a)))
theorem ry:MdlOK Try.prog 73 ks:=g8 Try.func73 rfl kq (.two .z (.two (.two .z (.s 0)) .z)) (sC su s0)
def qbp:Shp:=⟨[qu2],[]⟩
abbrev qc0:Ctx (Int):=⟨29,tt,false,false,[],f8 [(81,pt),(73,ks)],gv [ao _ 29 [] qjl (C:=((List ab)×(List ab)×Int×Int×(List ae)×Int×Int×Int×(List ae)×Int×Int)) (S:=(Int×(List (ByteArray×Bool)))) (fun x=>((x.1.1,(pe4 x.1),(pe5 x.1),x.2.1.1,x.2.1.2.1,x.2.1.2.2.1,(pe3 x.2.1),x.2.2.1.1,x.2.2.1.2.1,x.2.2.1.2.2.1,(pe3 x.2.2.1)),((pe6 x.1),(pe4 x)))) qjk (CE:=((List ab)×Int×(List ae)×Int×Int×Int×(List ae)×Int×Int)) (E:=(List (ByteArray×Bool))) (fun c e=>((c.1,(),(),(),()),((c.2.1,c.2.2.1,(pe3 c),(pe4 c),()),((pe5 c),(pe6 c),(pe7 c),(pf8 c),()),((),()),e,()))) (fun c=>(c.1,(pe3 c),(pe4 c),(pe5 c),(pe6 c),(pe7 c),(pe8 c),(pe9 c),(pf10 c))) (fun{R} c a nx dn rt=>l8 c.1 c.2.1 c.2.2.1 (pe3 c) (pe4 c) (pe5 c) (pe6 c) (pe7 c) (pe8 c) (pe9 c) (pf10 c) a.1 a.2 nx dn rt)],bn 29 tt [] [.tmp 6] qbp (fun x=>x.1.1)⟩
theorem qcy:CtxM Try.prog qc0:=g9 fits mixed (mC o6 (mC ry m0))
theorem qlk:ay Try.prog qc0 0 (lc 0 Try.f48 75):=lp rfl qcy (.two .z (.two .z (.two (.one (.two .z (.d [0,0,2,0,8,30,63] [6] []))) .z))) s0 (fun c a=>((c.1,(),(),(),c.2.1,c.2.2.1,a.1,()),(((pe3 c),(pe4 c),(pe5 c),(pe6 c),()),((pe7 c),(pe8 c),(pe9 c),(pf10 c),()),((),()),a.2,()))) (fun y=>((y.1.1,y.2.1.1,y.2.1.2.1,y.2.1.2.2.1,(pe3 y.2.1),y.2.2.1.1,y.2.2.1.2.1,y.2.2.1.2.2.1,(pe3 y.2.2.1)),(pe4 y)))
abbrev qcz:Mdl:=(ar (.cons (.d false a8.ty) (.cons (.d false a8.ty) (.cons (.d false (.slice ab.ty)) .nil))) [] [] 1 qbp (B:=Int) (fun b=>((b,()),(()))) (fun a=>p8 a.1.1 a.1.2.1 a.1.2.2.1))
theorem qjo:MdlOK Try.prog 48 qcz:=g8 Try.func48 rfl qcy (.two .z (.two .z (.two (.two .z (.s 0)) .z))) (sC qlk s0)
def qhg:Shp:=⟨[qkr],[]⟩
abbrev qv8:Ctx (Bool):=⟨78,tt,false,false,[],f8 [(43,qed),(44,qjr),(45,yl),(46,qe),(19,bu),(36,kj),(48,qcz)],gv [],bn 78 tt [] [.tmp 8] qhg (fun x=>x.1.1)⟩
theorem qv7:CtxM Try.prog qv8:=g9 fits mixed (mC qhm (mC qrd (mC qcq (mC qak (mC bt (mC rm (mC qjo m0)))))))
abbrev qcn:Mdl:=(ar (.cons (.d false a8.ty) (.cons (.d false a8.ty) (.cons (.d false qT1) (.cons (.d false du.ty) .nil)))) [] [] 1 qhg (B:=Bool) (fun b=>((b,()),(()))) (fun a=>pr a.1.1 a.1.2.1 a.1.2.2.1 (pe3 a.1)))
theorem qe6:MdlOK Try.prog 13 qcn:=g8 Try.func13 rfl qv7 .z s0
def qlr:Shp:=⟨[qkr],[]⟩
abbrev q1c:Ctx (Bool):=⟨46,tt,false,false,[],f8 [(33,qsm),(31,qlx),(13,qcn)],gv [],bn 46 tt [] [.tmp 0] qlr (fun x=>x.1.1)⟩
theorem q1b:CtxM Try.prog q1c:=g9 fits mixed (mC qx9 (mC qtx (mC qe6 m0)))
abbrev qog:Mdl:=(ar .nil [] [] 1 qlr (B:=Bool) (fun b=>((b,()),(()))) (fun a=>qiz))
theorem qvy:MdlOK Try.prog 8 qog:=g8 Try.func8 rfl q1b .z s0
def qhd:Shp:=⟨[qkr],[]⟩
abbrev qv0:Ctx (Bool):=⟨19,tt,false,false,[],f8 [],gv [],bn 19 tt [] [.tmp 2] qhd (fun x=>x.1.1)⟩
theorem qvz:CtxM Try.prog qv0:=g9 fits mixed m0
abbrev qi1:Mdl:=(ar (.cons (.d false ae.ty) .nil) [] [] 1 qhd (B:=Bool) (fun b=>((b,()),(()))) (fun a=>zd a.1.1))
theorem qqp:MdlOK Try.prog 35 qi1:=g8 Try.func35 rfl qvz .z s0
def gb:Shp:=⟨[qu2],[]⟩
abbrev gu:Ctx (Int):=⟨19,tt,false,false,[],f8 [(35,qi1)],gv [ao _ 19 [] ow (C:=((List ae)×Int)) (S:=Int) (fun x=>((x.1.1,x.1.2.2.1),(pe3 x.1))) ov (CE:=Unit) (E:=Unit) (fun c e=>((()),(()))) (fun c=>()) (fun{R} c a nx dn rt=>b9 c.1 c.2 a nx dn rt)],bn 19 tt [] [.tmp 4] gb (fun x=>x.1.1)⟩
theorem gp:CtxM Try.prog gu:=g9 fits mixed (mC qqp m0)
theorem pc:ay Try.prog gu 0 (lc 0 Try.f72 37):=lp rfl gp .z s0 (fun c a=>((c.1,(()),c.2,a,()),(()))) (fun y=>((),()))
abbrev gq:Mdl:=(ar (.cons (.d false (.slice ae.ty)) (.cons (.fn 35 .nil) .nil)) [] [] 1 gb (B:=Int) (fun b=>((b,()),(()))) (fun a=>dr a.1.1))
theorem ox:MdlOK Try.prog 72 gq:=g8 Try.func72 rfl gp (.two .z (.two (.two .z (.s 0)) .z)) (sC pc s0)
def fq:Shp:=⟨[qkr],[]⟩
abbrev ns:Ctx (Bool):=⟨9,tt,false,false,[],f8 [(72,gq)],gv [],bn 9 tt [] [.tmp 4] fq (fun x=>x.1.1)⟩
theorem nr:CtxM Try.prog ns:=g9 fits mixed (mC ox m0)
abbrev fy:Mdl:=(ar (.cons (.d false (.slice ae.ty)) (.cons (.fn 35 .nil) .nil)) [] [] 1 fq (B:=Bool) (fun b=>((b,()),(()))) (fun a=>a7 a.1.1))
theorem ne:MdlOK Try.prog 34 fy:=g8 Try.func34 rfl nr .z s0
def qls:Shp:=⟨[qkr],[]⟩
abbrev q1e:Ctx (Bool):=⟨32,tt,false,false,[],f8 [(34,fy)],gv [],bn 32 tt [] [.tmp 2] qls (fun x=>x.1.1)⟩
theorem q1d:CtxM Try.prog q1e:=g9 fits mixed (mC ne m0)
abbrev qoh:Mdl:=(ar (.cons (.d false a8.ty) .nil) [] [] 1 qls (B:=Bool) (fun b=>((b,()),(()))) (fun a=>z6 a.1.1))
theorem qv1:MdlOK Try.prog 9 qoh:=g8 Try.func9 rfl q1d .z s0
def qoj:Shp:=⟨[qkr],[]⟩
abbrev q3p:Ctx (Bool):=⟨16,tt,false,false,[],f8 [],gv [],bn 16 tt [] [.tmp 2] qoj (fun x=>x.1.1)⟩
theorem q3o:CtxM Try.prog q3p:=g9 fits mixed m0
abbrev qso:Mdl:=(ar (.cons (.d false qT1) .nil) [] [] 1 qoj (B:=Bool) (fun b=>((b,()),(()))) (fun a=>qci a.1.1))
theorem qya:MdlOK Try.prog 10 qso:=g8 Try.func10 rfl q3o .z s0
def qi2:Shp:=⟨[qkr],[]⟩
abbrev qyc:Ctx (Bool):=⟨13,tt,false,false,[],f8 [],gv [],bn 13 tt [] [.tmp 2] qi2 (fun x=>x.1.1)⟩
theorem qyb:CtxM Try.prog qyc:=g9 fits mixed m0
abbrev qlu:Mdl:=(ar (.cons (.d false ab.ty) .nil) [] [] 1 qi2 (B:=Bool) (fun b=>((b,()),(()))) (fun a=>qgp a.1.1))
theorem qtk:MdlOK Try.prog 37 qlu:=g8 Try.func37 rfl qyb .z s0
def ln:Shp:=⟨[qu2],[]⟩
abbrev mm:Ctx (Int):=⟨19,tt,false,false,[],f8 [(37,qlu)],gv [ao _ 19 [] uk (C:=((List ab)×Int)) (S:=Int) (fun x=>((x.1.1,x.1.2.2.1),(pe3 x.1))) uj (CE:=Unit) (E:=Unit) (fun c e=>((()),(()))) (fun c=>()) (fun{R} c a nx dn rt=>cx c.1 c.2 a nx dn rt)],bn 19 tt [] [.tmp 4] ln (fun x=>x.1.1)⟩
theorem mi:CtxM Try.prog mm:=g9 fits mixed (mC qtk m0)
theorem vg:ay Try.prog mm 0 (lc 0 Try.f73 37):=lp rfl mi .z s0 (fun c a=>((c.1,(()),c.2,a,()),(()))) (fun y=>((),()))
abbrev mj:Mdl:=(ar (.cons (.d false (.slice ab.ty)) (.cons (.fn 37 .nil) .nil)) [] [] 1 ln (B:=Int) (fun b=>((b,()),(()))) (fun a=>gf a.1.1))
theorem ul:MdlOK Try.prog 73 mj:=g8 Try.func73 rfl mi (.two .z (.two (.two .z (.s 0)) .z)) (sC vg s0)
def jj:Shp:=⟨[qkr],[]⟩
abbrev th:Ctx (Bool):=⟨9,tt,false,false,[],f8 [(73,mj)],gv [],bn 9 tt [] [.tmp 4] jj (fun x=>x.1.1)⟩
theorem tf:CtxM Try.prog th:=g9 fits mixed (mC ul m0)
abbrev kh:Mdl:=(ar (.cons (.d false (.slice ab.ty)) (.cons (.fn 37 .nil) .nil)) [] [] 1 jj (B:=Bool) (fun b=>((b,()),(()))) (fun a=>fj a.1.1))
theorem rl:MdlOK Try.prog 36 kh:=g8 Try.func36 rfl tf .z s0
def qok:Shp:=⟨[qkr],[]⟩
abbrev q3r:Ctx (Bool):=⟨10,tt,false,false,[],f8 [(36,kh)],gv [],bn 10 tt [] [.tmp 2] qok (fun x=>x.1.1)⟩
theorem q3q:CtxM Try.prog q3r:=g9 fits mixed (mC rl m0)
abbrev qsp:Mdl:=(ar (.cons (.d false (.slice ab.ty)) .nil) [] [] 1 qok (B:=Bool) (fun b=>((b,()),(()))) (fun a=>qgo a.1.1))
theorem qyd:MdlOK Try.prog 11 qsp:=g8 Try.func11 rfl q3q .z s0
def qj5:Shp:=⟨[qkr],[]⟩
abbrev qy4:Ctx (Bool):=⟨17,tt,false,false,[],f8 [],gv [],bn 17 tt [] [.tmp 2] qj5 (fun x=>x.1.1)⟩
theorem qy3:CtxM Try.prog qy4:=g9 fits mixed m0
abbrev qme:Mdl:=(ar (.cons (.d false (.int .u8)) .nil) [] [] 1 qj5 (B:=Bool) (fun b=>((b,()),(()))) (fun a=>wz a.1.1))
theorem qug:MdlOK Try.prog 99 qme:=g8 Try.func99 rfl qy3 .z s0
def qj4:Shp:=⟨[qkr],[]⟩
abbrev qmd:Ctx (Bool):=⟨52,tt,false,false,[],f8 [(99,qme)],gv [ao _ 52 [] que (C:=ByteArray) (S:=Int) (fun x=>(x.1.1,x.1.2.1)) qud (CE:=Unit) (E:=Unit) (fun c e=>((()),(()))) (fun c=>()) (fun{R} c a nx dn rt=>o8 c a nx dn rt)],bn 52 tt [] [.tmp 2] qj4 (fun x=>x.1.1)⟩
theorem qmb:CtxM Try.prog qmd:=g9 fits mixed (mC qug m0)
theorem qxa:ay Try.prog qmd 0 (lc 0 Try.f74 75):=lp rfl qmb .z s0 (fun c a=>((c,a,()),(()))) (fun y=>((),()))
abbrev qmc:Mdl:=(ar (.cons (.d false .str) .nil) [] [] 1 qj4 (B:=Bool) (fun b=>((b,()),(()))) (fun a=>qb0 a.1.1))
theorem quf:MdlOK Try.prog 74 qmc:=g8 Try.func74 rfl qmb (.two .z (.two .z (.two (.two .z (.s 0)) .z))) (sC qxa s0)
def qka:Shp:=⟨[qkr],[]⟩
abbrev qmj:Ctx (Bool):=⟨41,tt,false,false,[],f8 [],gv [ao _ 41 [] quj (C:=(Int×qL1)) (S:=Int) (fun x=>((x.1.1,x.1.2.1),x.1.2.2.1)) qui (CE:=Unit) (E:=Unit) (fun c e=>((()),(()))) (fun c=>()) (fun{R} c a nx dn rt=>l4 c.1 c.2 a nx dn rt)],bn 41 tt [] [.tmp 4] qka (fun x=>x.1.1)⟩
theorem qmh:CtxM Try.prog qmj:=g9 fits mixed m0
theorem qxg:ay Try.prog qmj 0 (lc 0 Try.f75 37):=lp rfl qmh (.two .z (.two (.one (.two (.d [0,0,3,7,15,31,63,63,255,511,63,2047,4095,8191,16383,32767,65535,131071,131071,393215,1048575,2097151,131071,131071,12713983,29491199,67108863,134217727,268435455] [] []) .z)) .z)) s0 (fun c a=>((c.1,c.2,a,()),(()))) (fun y=>((),()))
abbrev qmi:Mdl:=(ar (.cons (.d false qT0) (.cons (.d false qT1) .nil)) [] [] 1 qka (B:=Bool) (fun b=>((b,()),(()))) (fun a=>ot a.1.1 a.1.2.1))
theorem quk:MdlOK Try.prog 75 qmi:=g8 Try.func75 rfl qmh (.two .z (.two (.two .z (.s 0)) .z)) (sC qxg s0)
def qmg:Shp:=⟨[qkr],[]⟩
abbrev qpl:Ctx (Bool):=⟨80,tt,false,false,[],f8 [(74,qmc),(75,qmi)],gv [ao _ 80 [] qxe (C:=(Int×(List ae)×Int×Int)) (S:=Int) (fun x=>((x.2.1.1,x.2.1.2.1,x.2.1.2.2.1,(pe3 x.2.1)),x.1.2.1)) qxd (CE:=Unit) (E:=Unit) (fun c e=>((()),(()))) (fun c=>()) (fun{R} c a nx dn rt=>w9 c.1 c.2.1 c.2.2.1 c.2.2.2 a nx dn rt)],bn 80 tt [] [.tmp 2] qmg (fun x=>x.1.1)⟩
theorem qpj:CtxM Try.prog qpl:=g9 fits mixed (mC quf (mC quk m0))
theorem qy5:ay Try.prog qpl 0 (lc 0 Try.f38 75):=lp rfl qpj .z s0 (fun c a=>(((),a,()),((c.1,c.2.1,c.2.2.1,c.2.2.2,()),()))) (fun y=>((),()))
abbrev qpk:Mdl:=(ar (.cons (.d false a8.ty) .nil) [] [] 1 qmg (B:=Bool) (fun b=>((b,()),(()))) (fun a=>qd4 a.1.1))
theorem qxf:MdlOK Try.prog 38 qpk:=g8 Try.func38 rfl qpj (.two .z (.two .z (.two (.two .z (.s 0)) .z))) (sC qy5 s0)
def qs1:Shp:=⟨[qkr],[]⟩
abbrev qxc:Ctx (Bool):=⟨18,tt,false,false,[],f8 [],gv [ao _ 18 [] q19 (C:=(qL1×Int)) (S:=Int) (fun x=>((x.1.1,x.1.2.1),x.1.2.2.1)) q18 (CE:=Unit) (E:=Unit) (fun c e=>((()),(()))) (fun c=>()) (fun{R} c a nx dn rt=>qb1 c.1 c.2 a nx dn rt)],bn 18 tt [] [.tmp 4] qs1 (fun x=>x.1.1)⟩
theorem qxb:CtxM Try.prog qxc:=g9 fits mixed m0
theorem q39:ay Try.prog qxc 0 (lc 0 Try.f41 37):=lp rfl qxb .z s0 (fun c a=>((c.1,c.2,a,()),(()))) (fun y=>((),()))
abbrev qgx:Mdl:=(ar (.cons (.d false qT1) (.cons (.d false qT0) .nil)) [] [] 1 qs1 (B:=Bool) (fun b=>((b,()),(()))) (fun a=>pu a.1.1 a.1.2.1))
theorem qgy:MdlOK Try.prog 41 qgx:=g8 Try.func41 rfl qxb (.two .z (.two (.two .z (.s 0)) .z)) (sC q39 s0)
def qml:Shp:=⟨[jb9],[qtg]⟩
abbrev qb3:Ctx (qL1):=⟨72,tt,false,false,[],f8 [(41,qgx)],gv [ao _ 72 [] qxi (C:=(Int×Int×Int×(List ae)×Int×Int)) (S:=(Int×qL1)) (fun x=>((x.1.2.2.1,(pe3 x.1),x.2.1.1,x.2.1.2.1,x.2.1.2.2.1,(pe3 x.2.1)),((pe4 x.1),x.2.2.1))) qxh (CE:=(Int×Int×Int×(List ae)×Int×Int)) (E:=qL1) (fun c e=>(((),(),c.1,c.2.1,()),((c.2.2.1,(pe3 c),(pe4 c),(pf5 c),()),e,()))) (fun c=>(c.1,c.2.1,c.2.2.1,(pe3 c),(pe4 c),(pf5 c))) (fun{R} c a nx dn rt=>qo c.1 c.2.1 c.2.2.1 (pe3 c) (pe4 c) (pf5 c) a.1 a.2 nx dn rt),ao _ 72 [] qxk (C:=(Int×Int×(List ae)×Int×Int)) (S:=(Int×qL1)) (fun x=>((x.1.2.2.1,x.2.1.1,x.2.1.2.1,x.2.1.2.2.1,(pe3 x.2.1)),((pe3 x.1),x.2.2.1))) qxj (CE:=(Int×Int×(List ae)×Int×Int)) (E:=qL1) (fun c e=>(((),(),c.1,()),((c.2.1,c.2.2.1,(pe3 c),(pf4 c),()),e,()))) (fun c=>(c.1,c.2.1,c.2.2.1,(pe3 c),(pf4 c))) (fun{R} c a nx dn rt=>qp c.1 c.2.1 c.2.2.1 (pe3 c) (pf4 c) a.1 a.2 nx dn rt),ao _ 72 [] qxm (C:=(Int×(List ae)×Int×Int)) (S:=(Int×qL1)) (fun x=>((x.2.1.1,x.2.1.2.1,x.2.1.2.2.1,(pe3 x.2.1)),(x.1.2.2.1,x.2.2.1))) qxl (CE:=Unit) (E:=qL1) (fun c e=>(((),()),(e,()))) (fun c=>()) (fun{R} c a nx dn rt=>xa c.1 c.2.1 c.2.2.1 c.2.2.2 a.1 a.2 nx dn rt)],bn 72 tt [] [.tmp 4] qml (fun x=>x.2.1)⟩
theorem qb2:CtxM Try.prog qb3:=g9 fits mixed (mC qgy m0)
theorem qy6:ay Try.prog qb3 0 (lc 4 Try.f39 627275):=lp rfl qb2 .z s0 (fun c a=>(((),(),c.1,c.2.1,a.1,()),((c.2.2.1,(pe3 c),(pe4 c),(pf5 c),()),a.2,()))) (fun y=>((y.1.2.2.1,(pe3 y.1),y.2.1.1,y.2.1.2.1,y.2.1.2.2.1,(pe3 y.2.1)),y.2.2.1))
theorem qy7:ay Try.prog qb3 1 (lc 2 Try.f39 4683):=lp rfl qb2 (.two .z (.two (.one (.two (.two (.d [0,1,0,7,15,31,0,0,192,448,1023,2047] [] []) .z) (.two .z (.s 0)))) .z)) (sC qy6 s0) (fun c a=>(((),(),c.1,a.1,()),((c.2.1,c.2.2.1,(pe3 c),(pf4 c),()),a.2,()))) (fun y=>((y.1.2.2.1,y.2.1.1,y.2.1.2.1,y.2.1.2.2.1,(pe3 y.2.1)),y.2.2.1))
theorem qy8:ay Try.prog qb3 2 (lc 0 Try.f39 75):=lp rfl qb2 (.two .z (.two (.one (.two .z (.s 1))) .z)) (sC qy7 s0) (fun c a=>(((),(),a.1,()),((c.1,c.2.1,c.2.2.1,c.2.2.2,()),a.2,()))) (fun y=>((),y.2.1))
abbrev qps:Mdl:=(ar (.cons (.d false a8.ty) (.cons (.d false qT0) .nil)) [] [] 1 qml (B:=qL1) (fun b=>(((),()),(b,()))) (fun a=>qag a.1.1 a.1.2.1))
theorem qxn:MdlOK Try.prog 39 qps:=g8 Try.func39 rfl qb2 (.two .z (.two .z (.two (.two .z (.s 2)) .z))) (sC qy8 s0)
def qh1:Shp:=⟨[(0, .d true a8.ty)],[]⟩
abbrev qj8:Ctx (a8):=⟨42,tt,false,false,[],f8 [],gv [ao _ 42 [] qr0 (C:=(Int×(List ae)×Int×Int×Int×(List ae)×Int×Int×Int×Int×Int)) (S:=(Int×(List ae))) (fun x=>((x.2.1.1,x.2.1.2.1,x.2.1.2.2.1,(pe3 x.2.1),x.2.2.1.1,x.2.2.1.2.1,x.2.2.1.2.2.1,(pe3 x.2.2.1),(pe3 x).1,(pe3 x).2.2.1,(pe3 (pe3 x))),((pe3 x.1),(pe4 x)))) qrz (CE:=(Int×(List ae)×Int×Int×Int×Int×Int)) (E:=(List ae)) (fun c e=>(((),(),()),((c.1,c.2.1,c.2.2.1,(pe3 c),()),((pe4 c),(),(pe5 c),(pf6 c),()),e,()))) (fun c=>((pe4 c),(pe5 c),(pe6 c),(pe7 c),(pe8 c),(pe9 c),(pf10 c))) (fun{R} c a nx dn rt=>rk c.1 c.2.1 c.2.2.1 (pe3 c) (pe4 c) (pe5 c) (pe6 c) (pe7 c) (pe8 c) (pe9 c) (pf10 c) a.1 a.2 nx dn rt)],bn 42 tt [] [.cell 2 24] qh1 (fun x=>x.1.1)⟩
theorem qj6:CtxM Try.prog qj8:=g9 fits mixed m0
theorem quh:ay Try.prog qj8 0 (lc 0 Try.f40 75):=lp rfl qj6 (.two .z (.two (.one (.two .z (.d [0,1,0,4,0,0,32,112,0,0,512,2032,4092,8188,16383,32767,65535] [7,11,12,13,14,16] []))) .z)) s0 (fun c a=>(((),(),(),a.1,()),((c.1,c.2.1,c.2.2.1,(pe3 c),()),((pe4 c),(pe5 c),(pe6 c),(pe7 c),()),((pe8 c),(),(pe9 c),(pf10 c),()),a.2,()))) (fun y=>((y.2.1.1,y.2.1.2.1,y.2.1.2.2.1,(pe3 y.2.1),y.2.2.1.1,y.2.2.1.2.2.1,(pe3 y.2.2.1)),(pe3 y)))
abbrev qj7:Mdl:=(ar (.cons (.d false a8.ty) .nil) [] [] 1 qh1 (B:=a8) (fun b=>((b,()),(()))) (fun a=>zm a.1.1))
theorem qr1:MdlOK Try.prog 40 qj7:=g8 Try.func40 rfl qj6 (.two .z (.two .z (.two (.two .z (.s 0)) .z))) (sC quh s0)
def qpu:Shp:=⟨[qkr],[]⟩
abbrev qs5:Ctx (Bool):=⟨18,tt,false,false,[],f8 [(41,qgx)],gv [ao _ 18 [] qza (C:=(qL1×qL1)) (S:=Int) (fun x=>((x.1.1,x.1.2.1),x.1.2.2.1)) qy9 (CE:=Unit) (E:=Unit) (fun c e=>((()),(()))) (fun c=>()) (fun{R} c a nx dn rt=>zn c.1 c.2 a nx dn rt)],bn 18 tt [] [.tmp 4] qpu (fun x=>x.1.1)⟩
theorem qs3:CtxM Try.prog qs5:=g9 fits mixed (mC qgy m0)
theorem q2a:ay Try.prog qs5 0 (lc 0 Try.f42 37):=lp rfl qs3 .z s0 (fun c a=>((c.1,c.2,a,()),(()))) (fun y=>((),()))
abbrev qs4:Mdl:=(ar (.cons (.d false qT1) (.cons (.d false qT1) .nil)) [] [] 1 qpu (B:=Bool) (fun b=>((b,()),(()))) (fun a=>qc4 a.1.1 a.1.2.1))
theorem qzb:MdlOK Try.prog 42 qs4:=g8 Try.func42 rfl qs3 (.two .z (.two (.two .z (.s 0)) .z)) (sC q2a s0)
def qfw:Shp:=⟨[qkr],[]⟩
abbrev qa9:Ctx (Bool):=⟨81,tt,false,false,[],f8 [(38,qpk),(39,qps),(40,qj7),(41,qgx),(42,qs4)],gv [ao _ 81 [] qpn (C:=(qL1×qL1×Int×(List ae)×Int×Int)) (S:=Int) (fun x=>((x.1.2.1,x.1.2.2.1,x.2.1.1,x.2.1.2.1,x.2.1.2.2.1,(pe3 x.2.1)),(pe3 x.1))) qpm (CE:=(qL1×qL1×Int×(List ae)×Int×Int)) (E:=Unit) (fun c e=>(((),c.1,c.2.1,()),((c.2.2.1,(pe3 c),(pe4 c),(pf5 c),()),()))) (fun c=>(c.1,c.2.1,c.2.2.1,(pe3 c),(pe4 c),(pf5 c))) (fun{R} c a nx dn rt=>l9 c.1 c.2.1 c.2.2.1 (pe3 c) (pe4 c) (pf5 c) a nx dn rt),ao _ 81 [] qpp (C:=(qL1×qL1×Int×(List ae)×Int×Int)) (S:=Int) (fun x=>((x.1.2.1,x.1.2.2.1,x.2.1.1,x.2.1.2.1,x.2.1.2.2.1,(pe3 x.2.1)),(pe3 x.1))) qpo (CE:=Unit) (E:=Unit) (fun c e=>((()),(()))) (fun c=>()) (fun{R} c a nx dn rt=>qb c.1 c.2.1 c.2.2.1 (pe3 c) (pe4 c) (pf5 c) a nx dn rt)],bn 81 tt [] [.tmp 2] qfw (fun x=>x.1.1)⟩
theorem qa8:CtxM Try.prog qa9:=g9 fits mixed (mC qxf (mC qxn (mC qr1 (mC qgy (mC qzb m0)))))
theorem qr3:ay Try.prog qa9 1 (lc 2 Try.f12 607):=lp rfl qa8 .z s0 (fun c a=>(((),c.1,c.2.1,a,()),((c.2.2.1,(pe3 c),(pe4 c),(pf5 c),()),()))) (fun y=>((),()))
theorem qr2:ay Try.prog qa9 0 (lc 0 Try.f12 303):=lp rfl qa8 .z s0 (fun c a=>(((),c.1,c.2.1,a,()),((c.2.2.1,(pe3 c),(pe4 c),(pf5 c),()),()))) (fun y=>((y.1.2.1,y.1.2.2.1,y.2.1.1,y.2.1.2.1,y.2.1.2.2.1,(pe3 y.2.1)),()))
abbrev qh2:Mdl:=(ar (.cons (.d false a8.ty) .nil) [] [] 1 qfw (B:=Bool) (fun b=>((b,()),(()))) (fun a=>nj a.1.1))
theorem qpq:MdlOK Try.prog 12 qh2:=g8 Try.func12 rfl qa8 (.two .z (.two .z (.two .z (.two (.d [0,1,0,4,15,31] [] []) (.two (.two .z (.s 0)) (.two (.two .z (.s 1)) .z)))))) (sC qr2 (sC qr3 s0))
def qs2:Shp:=⟨[jtt],[]⟩
abbrev q50:Ctx (qL1):=⟨13,tt,false,false,[],f8 [],gv [],bn 13 tt [] [.tmp 4] qs2 (fun x=>x.1.1)⟩
theorem q5z:CtxM Try.prog q50:=g9 fits mixed m0
abbrev qnk:Mdl:=(ar (.cons (.d false a8.ty) (.cons (.d false qT0) .nil)) [] [] 1 qs2 (B:=qL1) (fun b=>((b,()),(()))) (fun a=>qb8 a.1.1 a.1.2.1))
theorem qpi:MdlOK Try.prog 15 qnk:=g8 Try.func15 rfl q5z .z s0
def sg:Shp:=⟨[jb9],[qd8]⟩
abbrev qem:Ctx (qL2):=⟨8,tt,false,false,[],f8 [],gv [],bn 8 tt [] [.tmp 2] sg (fun x=>x.2.1)⟩
theorem qek:CtxM Try.prog qem:=g9 fits mixed m0
abbrev qel:Mdl:=(ar (.cons (.nl false (.d true qT2)) .nil) [] [] 1 sg (B:=qL2) (fun b=>(((),()),(b,()))) (fun a=>u6 a.1.1))
theorem qc7:MdlOK Try.prog 52 qel:=g8 Try.func52 rfl qek .z s0
def lz:Shp:=⟨[jb9],[qd8]⟩
abbrev qep:Ctx (qL2):=⟨8,tt,false,false,[],f8 [],gv [],bn 8 tt [] [.tmp 2] lz (fun x=>x.2.1)⟩
theorem qen:CtxM Try.prog qep:=g9 fits mixed m0
abbrev qeo:Mdl:=(ar (.cons (.nl true (.d true qT2)) .nil) [] [] 1 lz (B:=qL2) (fun b=>(((),()),(b,()))) (fun a=>i7 a.1.1))
theorem qc8:MdlOK Try.prog 52 qeo:=g8 Try.func52 rfl qen .z s0
abbrev xc:Mdl:=(ar (.cons (.d true qT2) .nil) [] [] 1 lz (fun(b:qL2)=>(((),()),(b,()))) (fun(a:((qL2×Unit)×(Unit)))=>gm a.1.1))
theorem qej:MdlOK Try.prog 52 xc:=by
 refine qzy (q7t _ _) qc7 qc8 (by kernel_rfl) (fun a b h=>⟨?_,h⟩);obtain⟨⟨xs,u1⟩,u2⟩:=a;cases xs with
 |nil=>exact h
 |cons x l=>
  have e:decide ((((x::l).length:Nat):Int)=0)=false:=decide_eq_false (by simp only[List.length_cons];omega);simp only[gm,i7]at h;simp only[u6,e,cond_false];exact h
def qi6:Shp:=⟨[qkr],[]⟩
abbrev qyj:Ctx (Bool):=⟨7,tt,false,false,[],f8 [(19,bu)],gv [],bn 7 tt [] [.tmp 3] qi6 (fun x=>x.1.1)⟩
theorem qyi:CtxM Try.prog qyj:=g9 fits mixed (mC bt m0)
abbrev qlv:Mdl:=(ar (.cons (.d false qT1) (.cons (.rp false qT1) .nil)) [] [] 1 qi6 (B:=Bool) (fun b=>((b,()),(()))) (fun a=>qgq a.1.1 a.1.2.1))
theorem qtl:MdlOK Try.prog 54 qlv:=g8 Try.func54 rfl qyi .z s0
def oa:Shp:=⟨[qu2],[]⟩
abbrev pn:Ctx (Int):=⟨19,tt,false,false,[],f8 [(54,qlv)],gv [ao _ 19 [] y6 (C:=(qL2×qL1×Int)) (S:=Int) (fun x=>((x.1.1,x.1.2.1.1,x.1.2.2.1),(pe3 x.1))) y5 (CE:=Unit) (E:=Unit) (fun c e=>((()),(()))) (fun c=>()) (fun{R} c a nx dn rt=>ew c.1 c.2.1 c.2.2 a nx dn rt)],bn 19 tt [] [.tmp 4] oa (fun x=>x.1.1)⟩
theorem pj:CtxM Try.prog pn:=g9 fits mixed (mC qtl m0)
theorem qan:ay Try.prog pn 0 (lc 0 Try.f55 37):=lp rfl pj .z s0 (fun c a=>((c.1,(c.2.1,()),c.2.2,a,()),(()))) (fun y=>((),()))
abbrev pk:Mdl:=(ar (.cons (.d false qT2) (.cons (.fn 54 (.cons (.rp false qT1) .nil)) .nil)) [] [] 1 oa (B:=Int) (fun b=>((b,()),(()))) (fun a=>j4 a.1.1 a.1.2.1.1))
theorem y7:MdlOK Try.prog 55 pk:=g8 Try.func55 rfl pj (.two .z (.two (.two .z (.s 0)) .z)) (sC qan s0)
def mg:Shp:=⟨[qkr],[]⟩
abbrev xt:Ctx (Bool):=⟨9,tt,false,false,[],f8 [(55,pk)],gv [],bn 9 tt [] [.tmp 4] mg (fun x=>x.1.1)⟩
theorem xr:CtxM Try.prog xt:=g9 fits mixed (mC y7 m0)
abbrev m8:Mdl:=(ar (.cons (.d false qT2) (.cons (.fn 54 (.cons (.rp false qT1) .nil)) .nil)) [] [] 1 mg (B:=Bool) (fun b=>((b,()),(()))) (fun a=>ep a.1.1 a.1.2.1.1))
theorem ve:MdlOK Try.prog 20 m8:=g8 Try.func20 rfl xr .z s0
def qon:Shp:=⟨[(0, .nl false (.d true qT2))],[]⟩
abbrev qi5:Ctx (qL2):=⟨55,tt,false,false,[],f8 [(16,qd0),(20,m8)],gv [ao _ 55 [] qyf (C:=(ByteArray×qL1×qL2×Int×Int×Int×Int×(List ae)×Int×Int)) (S:=(Int×qL2)) (fun x=>((x.1.1,(pe3 x.1),(pe4 x.1),(pe5 x.1),(pe6 x.1),(pe7 x.1),x.2.1.1,x.2.1.2.1,x.2.1.2.2.1,(pe3 x.2.1)),((pe8 x.1),x.2.2.1))) qye (CE:=(ByteArray×qL2×Int×Int×Int×(List ae)×Int×Int)) (E:=qL2) (fun c e=>((c.1,(),(),c.2.1,c.2.2.1,(pe3 c),()),(((pe4 c),(pe5 c),(pe6 c),(pf7 c),()),e,()))) (fun c=>(c.1,c.2.2.1,(pe3 c),(pe4 c),(pe6 c),(pe7 c),(pe8 c),(pf9 c))) (fun{R} c a nx dn rt=>ze c.1 c.2.1 c.2.2.1 (pe3 c) (pe4 c) (pe5 c) (pe6 c) (pe7 c) (pe8 c) (pf9 c) a.1 a.2 nx dn rt),ao _ 55 [] qyh (C:=(ByteArray×qL2×Int×Int×(List ae)×Int×Int)) (S:=(Int×qL2)) (fun x=>((x.1.1,(pe3 x.1),(pe4 x.1),x.2.1.1,x.2.1.2.1,x.2.1.2.2.1,(pe3 x.2.1)),((pe5 x.1),x.2.2.1))) qyg (CE:=Unit) (E:=qL2) (fun c e=>(((),()),(e,()))) (fun c=>()) (fun{R} c a nx dn rt=>zf c.1 c.2.1 c.2.2.1 (pe3 c) (pe4 c) (pe5 c) (pf6 c) a.1 a.2 nx dn rt)],bn 55 tt [] [.tmp 6] qon (fun x=>x.1.1)⟩
theorem qi3:CtxM Try.prog qi5:=g9 fits mixed (mC qeg (mC ve m0))
theorem q1h:ay Try.prog qi5 0 (lc 2 Try.f18 19659):=lp rfl qi3 .z s0 (fun c a=>((c.1,(),(),c.2.1,c.2.2.1,(pe3 c),(pe4 c),(pe5 c),a.1,()),(((pe6 c),(pe7 c),(pe8 c),(pf9 c),()),a.2,()))) (fun y=>((y.1.1,(pe3 y.1),(pe4 y.1),(pe5 y.1),y.2.1.1,y.2.1.2.1,y.2.1.2.2.1,(pe3 y.2.1)),y.2.2.1))
theorem q1i:ay Try.prog qi5 1 (lc 0 Try.f18 75):=lp rfl qi3 (.two .z (.two .z (.two (.one (.two .z (.two .z (.s 0)))) .z))) (sC q1h s0) (fun c a=>((c.1,(),(),c.2.1,c.2.2.1,a.1,()),(((pe3 c),(pe4 c),(pe5 c),(pf6 c),()),a.2,()))) (fun y=>((),y.2.1))
abbrev qi4:Mdl:=(ar (.cons (.d false a8.ty) (.cons (.d false qT2) (.cons (.d false .str) .nil))) [] [] 1 qon (B:=qL2) (fun b=>((b,()),(()))) (fun a=>ud a.1.1 a.1.2.1 a.1.2.2.1))
theorem qlw:MdlOK Try.prog 18 qi4:=g8 Try.func18 rfl qi3 (.two .z (.two .z (.two (.two .z (.s 1)) .z))) (sC q1i s0)
def qdm:Shp:=⟨[qkr],[]⟩
abbrev qqn:Ctx (Bool):=⟨7,tt,false,false,[],f8 [(19,bu)],gv [],bn 7 tt [] [.tmp 3] qdm (fun x=>x.1.1)⟩
theorem qqm:CtxM Try.prog qqn:=g9 fits mixed (mC bt m0)
abbrev qe2:Mdl:=(ar (.cons (.d false qT1) (.cons (.rp false qT1) .nil)) [] [] 1 qdm (B:=Bool) (fun b=>((b,()),(()))) (fun a=>qaw a.1.1 a.1.2.1))
theorem qmu:MdlOK Try.prog 53 qe2:=g8 Try.func53 rfl qqm .z s0
def n8:Shp:=⟨[qu2],[]⟩
abbrev pi:Ctx (Int):=⟨19,tt,false,false,[],f8 [(53,qe2)],gv [ao _ 19 [] y3 (C:=(qL2×qL1×Int)) (S:=Int) (fun x=>((x.1.1,x.1.2.1.1,x.1.2.2.1),(pe3 x.1))) yz (CE:=Unit) (E:=Unit) (fun c e=>((()),(()))) (fun c=>()) (fun{R} c a nx dn rt=>eu c.1 c.2.1 c.2.2 a nx dn rt)],bn 19 tt [] [.tmp 4] n8 (fun x=>x.1.1)⟩
theorem pg:CtxM Try.prog pi:=g9 fits mixed (mC qmu m0)
theorem qam:ay Try.prog pi 0 (lc 0 Try.f55 37):=lp rfl pg .z s0 (fun c a=>((c.1,(c.2.1,()),c.2.2,a,()),(()))) (fun y=>((),()))
abbrev ph:Mdl:=(ar (.cons (.d false qT2) (.cons (.fn 53 (.cons (.rp false qT1) .nil)) .nil)) [] [] 1 n8 (B:=Int) (fun b=>((b,()),(()))) (fun a=>j3 a.1.1 a.1.2.1.1))
theorem y4:MdlOK Try.prog 55 ph:=g8 Try.func55 rfl pg (.two .z (.two (.two .z (.s 0)) .z)) (sC qam s0)
def mf:Shp:=⟨[qkr],[]⟩
abbrev xq:Ctx (Bool):=⟨9,tt,false,false,[],f8 [(55,ph)],gv [],bn 9 tt [] [.tmp 4] mf (fun x=>x.1.1)⟩
theorem xp:CtxM Try.prog xq:=g9 fits mixed (mC y4 m0)
abbrev m7:Mdl:=(ar (.cons (.d false qT2) (.cons (.fn 53 (.cons (.rp false qT1) .nil)) .nil)) [] [] 1 mf (B:=Bool) (fun b=>((b,()),(()))) (fun a=>eo a.1.1 a.1.2.1.1))
theorem vc:MdlOK Try.prog 20 m7:=g8 Try.func20 rfl xp .z s0
def qhc:Shp:=⟨[jb9],[qd8]⟩
abbrev qch:Ctx (qL2):=⟨44,tt,false,false,[],f8 [(52,xc),(18,qi4),(20,m7)],gv [ao _ 44 [] qqj (C:=(Int×qL2×Int×Int×(List ae)×Int×Int)) (S:=(Int×qL2)) (fun x=>((x.1.2.2.1,(pe3 x.1),(pe4 x.1),x.2.1.1,x.2.1.2.1,x.2.1.2.2.1,(pe3 x.2.1)),((pe5 x.1),x.2.2.1))) qqi (CE:=(Int×Int×(List ae)×Int×Int)) (E:=qL2) (fun c e=>(((),(),c.1,()),((c.2.1,c.2.2.1,(pe3 c),(pf4 c),()),e,()))) (fun c=>(c.1,(pe3 c),(pe4 c),(pe5 c),(pf6 c))) (fun{R} c a nx dn rt=>q0 c.1 c.2.1 c.2.2.1 (pe3 c) (pe4 c) (pe5 c) (pf6 c) a.1 a.2 nx dn rt),ao _ 44 [] qql (C:=(Int×(List ae)×Int×Int)) (S:=(Int×qL2)) (fun x=>((x.2.1.1,x.2.1.2.1,x.2.1.2.2.1,(pe3 x.2.1)),(x.1.2.2.1,x.2.2.1))) qqk (CE:=Unit) (E:=qL2) (fun c e=>(((),()),(e,()))) (fun c=>()) (fun{R} c a nx dn rt=>nh c.1 c.2.1 c.2.2.1 c.2.2.2 a.1 a.2 nx dn rt)],bn 44 tt [] [.tmp 4] qhc (fun x=>x.2.1)⟩
theorem qcg:CtxM Try.prog qch:=g9 fits mixed (mC qej (mC qlw (mC vc m0)))
theorem qti:ay Try.prog qch 0 (lc 2 Try.f17 4683):=lp rfl qcg .z s0 (fun c a=>(((),(),c.1,c.2.1,c.2.2.1,a.1,()),(((pe3 c),(pe4 c),(pe5 c),(pf6 c),()),a.2,()))) (fun y=>((y.1.2.2.1,y.2.1.1,y.2.1.2.1,y.2.1.2.2.1,(pe3 y.2.1)),y.2.2.1))
theorem qtj:ay Try.prog qch 1 (lc 0 Try.f17 75):=lp rfl qcg (.two .z (.two (.one (.two (.d [0,0,0,0,8,30,63,127,0] [] []) (.s 0))) .z)) (sC qti s0) (fun c a=>(((),(),a.1,()),((c.1,c.2.1,c.2.2.1,c.2.2.2,()),a.2,()))) (fun y=>((),y.2.1))
abbrev qi0:Mdl:=(ar (.cons (.d false a8.ty) (.cons (.d true qT2) .nil)) [] [] 1 qhc (B:=qL2) (fun b=>(((),()),(b,()))) (fun a=>kf a.1.1 a.1.2.1))
theorem qqo:MdlOK Try.prog 17 qi0:=g8 Try.func17 rfl qcg (.two .z (.two .z (.two (.two .z (.s 1)) .z))) (sC qtj s0)
def v7:Shp:=⟨[qkr],[]⟩
abbrev qid:Ctx (Bool):=⟨10,tt,false,false,[],f8 [(15,qnk),(19,bu)],gv [],bn 10 tt [] [.tmp 3] v7 (fun x=>x.1.1)⟩
theorem qic:CtxM Try.prog qid:=g9 fits mixed (mC qpi (mC bt m0))
abbrev x6:Mdl:=(ar (.cons (.d false qT1) (.cons (.rp false a8.ty) .nil)) [] [] 1 v7 (B:=Bool) (fun b=>((b,()),(()))) (fun a=>qh a.1.1 a.1.2.1))
theorem qe1:MdlOK Try.prog 21 x6:=g8 Try.func21 rfl qic .z s0
def n6:Shp:=⟨[qu2],[]⟩
abbrev pf:Ctx (Int):=⟨19,tt,false,false,[],f8 [(21,x6)],gv [ao _ 19 [] yw (C:=(qL2×a8×Int)) (S:=Int) (fun x=>((x.1.1,x.1.2.1.1,x.1.2.2.1),(pe3 x.1))) yv (CE:=Unit) (E:=Unit) (fun c e=>((()),(()))) (fun c=>()) (fun{R} c a nx dn rt=>er c.1 c.2.1 c.2.2 a nx dn rt)],bn 19 tt [] [.tmp 4] n6 (fun x=>x.1.1)⟩
theorem pd:CtxM Try.prog pf:=g9 fits mixed (mC qe1 m0)
theorem qal:ay Try.prog pf 0 (lc 0 Try.f55 37):=lp rfl pd .z s0 (fun c a=>((c.1,(c.2.1,()),c.2.2,a,()),(()))) (fun y=>((),()))
abbrev pe:Mdl:=(ar (.cons (.d false qT2) (.cons (.fn 21 (.cons (.rp false a8.ty) .nil)) .nil)) [] [] 1 n6 (B:=Int) (fun b=>((b,()),(()))) (fun a=>j2 a.1.1 a.1.2.1.1))
theorem yx:MdlOK Try.prog 55 pe:=g8 Try.func55 rfl pd (.two .z (.two (.two .z (.s 0)) .z)) (sC qal s0)
def me:Shp:=⟨[qkr],[]⟩
abbrev xo:Ctx (Bool):=⟨9,tt,false,false,[],f8 [(55,pe)],gv [],bn 9 tt [] [.tmp 4] me (fun x=>x.1.1)⟩
theorem xn:CtxM Try.prog xo:=g9 fits mixed (mC yx m0)
abbrev m6:Mdl:=(ar (.cons (.d false qT2) (.cons (.fn 21 (.cons (.rp false a8.ty) .nil)) .nil)) [] [] 1 me (B:=Bool) (fun b=>((b,()),(()))) (fun a=>en a.1.1 a.1.2.1.1))
theorem vb:MdlOK Try.prog 20 m6:=g8 Try.func20 rfl xn .z s0
def zz:Shp:=⟨[qkr],[]⟩
abbrev qbf:Ctx (Bool):=⟨143,tt,false,false,[],f8 [(8,qog),(9,qoh),(10,qso),(11,qsp),(12,qh2),(13,qcn),(15,qnk),(14,qnf),(16,qd0),(17,qi0),(18,qi4),(19,bu),(20,m6)],gv [ao _ 143 [] qib (C:=(qL1×Int×Int×(List ae)×Int×Int×Int×(List ae)×Int×Int)) (S:=(qL1×qL2×Int)) (fun x=>(((pe4 x.1),(pe5 x.1),x.2.1.1,x.2.1.2.1,x.2.1.2.2.1,(pe3 x.2.1),x.2.2.1.1,x.2.2.1.2.1,x.2.2.1.2.2.1,(pe3 x.2.2.1)),(x.1.2.2.1,(pe3 x.1),(pe6 x.1)))) qia (CE:=(Int×(List ae)×Int×Int×Int×(List ae)×Int×Int)) (E:=(qL1×qL2)) (fun c e=>(((),(),e.1,e.2,()),((c.1,c.2.1,c.2.2.1,(pe3 c),()),((pe4 c),(pe5 c),(pe6 c),(pf7 c),()),()))) (fun c=>(c.2.2.1,(pe3 c),(pe4 c),(pe5 c),(pe6 c),(pe7 c),(pe8 c),(pf9 c))) (fun{R} c a nx dn rt=>cl c.1 c.2.1 c.2.2.1 (pe3 c) (pe4 c) (pe5 c) (pe6 c) (pe7 c) (pe8 c) (pf9 c) a.1 a.2.1 a.2.2 nx dn rt)],bn 143 tt [] [.tmp 10] zz (fun x=>x.1.1)⟩
theorem qbe:CtxM Try.prog qbf:=g9 fits mixed (mC qvy (mC qv1 (mC qya (mC qyd (mC qpq (mC qe6 (mC qpi (mC qo2 (mC qeg (mC qqo (mC qlw (mC bt (mC vb m0)))))))))))))
theorem qiy:ay Try.prog qbf 0 (lc 0 Try.f3 1215):=lp rfl qbe (.two .z (.two .z (.two (.one (.two .z (.two .z (.two .z (.two .z (.two .z (.two (.two .z (.two .z (.two (.d [0,0,0,0,14,31,63] [] []) .z))) .z))))))) .z))) s0 (fun c a=>(((),(),a.1,a.2.1,c.1,c.2.1,a.2.2,()),((c.2.2.1,(pe3 c),(pe4 c),(pe5 c),()),((pe6 c),(pe7 c),(pe8 c),(pf9 c),()),()))) (fun y=>((y.2.1.1,y.2.1.2.1,y.2.1.2.2.1,(pe3 y.2.1),y.2.2.1.1,y.2.2.1.2.1,y.2.2.1.2.2.1,(pe3 y.2.2.1)),(y.1.2.2.1,(pe3 y.1))))
abbrev qks:Mdl:=(ar (.cons (.d true a8.ty) (.cons (.d true a8.ty) (.cons (.d true qT1) (.cons (.d true du.ty) (.cons (.d true qT1) .nil))))) [] [] 1 zz (B:=Bool) (fun b=>((b,()),(()))) (fun a=>uc a.1.1 a.1.2.1 a.1.2.2.1 (pe3 a.1) (pe4 a.1)))
theorem qie:MdlOK Try.prog 3 qks:=g8 Try.func3 rfl qbe (.two .z (.two .z (.two .z (.two (.d [0,0,0,4,14,0,63,127,255,255,255,511,3071,8191] [] []) (.two .z (.two .z (.two (.two .z (.s 0)) .z))))))) (sC qiy s0)
end
end Go.Proofs.Ytdhfhpdadbopkaa
