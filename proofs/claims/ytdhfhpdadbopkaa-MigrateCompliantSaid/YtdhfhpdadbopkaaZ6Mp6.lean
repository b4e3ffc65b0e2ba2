/-
  The functions compute what their models say. Made by program (mg3.py) out of the translation.
-/
import Derived.Test.YtdhfhpdadbopkaaZ6Md
import Derived.Test.YtdhfhpdadbopkaaZ6Tt
import Derived.Test.YtdhfhpdadbopkaaZ6Ky
set_option linter.all false
set_option maxRecDepth 100000
namespace Go.Proofs.Ytdhfhpdadbopkaa
open Go.K Go.M
abbrev pe3{A0 A1 A2 A3 A4:Type}(x:A0×A1×A2×A3×A4):A3:=x.2.2.2.1
abbrev pe4{A0 A1 A2 A3 A4 A5:Type}(x:A0×A1×A2×A3×A4×A5):A4:=x.2.2.2.2.1
abbrev pe5{A0 A1 A2 A3 A4 A5 A6:Type}(x:A0×A1×A2×A3×A4×A5×A6):A5:=x.2.2.2.2.2.1
abbrev pe6{A0 A1 A2 A3 A4 A5 A6 A7:Type}(x:A0×A1×A2×A3×A4×A5×A6×A7):A6:=x.2.2.2.2.2.2.1
abbrev pe7{A0 A1 A2 A3 A4 A5 A6 A7 A8:Type}(x:A0×A1×A2×A3×A4×A5×A6×A7×A8):A7:=x.2.2.2.2.2.2.2.1
abbrev pe8{A0 A1 A2 A3 A4 A5 A6 A7 A8 A9:Type}(x:A0×A1×A2×A3×A4×A5×A6×A7×A8×A9):A8:=x.2.2.2.2.2.2.2.2.1
abbrev pe9{A0 A1 A2 A3 A4 A5 A6 A7 A8 A9 A10:Type}(x:A0×A1×A2×A3×A4×A5×A6×A7×A8×A9×A10):A9:=x.2.2.2.2.2.2.2.2.2.1
abbrev pe10{A0 A1 A2 A3 A4 A5 A6 A7 A8 A9 A10 A11:Type}(x:A0×A1×A2×A3×A4×A5×A6×A7×A8×A9×A10×A11):A10:=x.2.2.2.2.2.2.2.2.2.2.1
abbrev pe11{A0 A1 A2 A3 A4 A5 A6 A7 A8 A9 A10 A11 A12:Type}(x:A0×A1×A2×A3×A4×A5×A6×A7×A8×A9×A10×A11×A12):A11:=x.2.2.2.2.2.2.2.2.2.2.2.1
abbrev pe12{A0 A1 A2 A3 A4 A5 A6 A7 A8 A9 A10 A11 A12 A13:Type}(x:A0×A1×A2×A3×A4×A5×A6×A7×A8×A9×A10×A11×A12×A13):A12:=x.2.2.2.2.2.2.2.2.2.2.2.2.1
abbrev pe13{A0 A1 A2 A3 A4 A5 A6 A7 A8 A9 A10 A11 A12 A13 A14:Type}(x:A0×A1×A2×A3×A4×A5×A6×A7×A8×A9×A10×A11×A12×A13×A14):A13:=x.2.2.2.2.2.2.2.2.2.2.2.2.2.1
abbrev pe14{A0 A1 A2 A3 A4 A5 A6 A7 A8 A9 A10 A11 A12 A13 A14 A15:Type}(x:A0×A1×A2×A3×A4×A5×A6×A7×A8×A9×A10×A11×A12×A13×A14×A15):A14:=x.2.2.2.2.2.2.2.2.2.2.2.2.2.2.1
abbrev pf4{A0 A1 A2 A3 A4:Type}(x:A0×A1×A2×A3×A4):A4:=x.2.2.2.2
abbrev pf5{A0 A1 A2 A3 A4 A5:Type}(x:A0×A1×A2×A3×A4×A5):A5:=x.2.2.2.2.2
abbrev pf6{A0 A1 A2 A3 A4 A5 A6:Type}(x:A0×A1×A2×A3×A4×A5×A6):A6:=x.2.2.2.2.2.2
abbrev pf7{A0 A1 A2 A3 A4 A5 A6 A7:Type}(x:A0×A1×A2×A3×A4×A5×A6×A7):A7:=x.2.2.2.2.2.2.2
abbrev pf8{A0 A1 A2 A3 A4 A5 A6 A7 A8:Type}(x:A0×A1×A2×A3×A4×A5×A6×A7×A8):A8:=x.2.2.2.2.2.2.2.2
abbrev pf9{A0 A1 A2 A3 A4 A5 A6 A7 A8 A9:Type}(x:A0×A1×A2×A3×A4×A5×A6×A7×A8×A9):A9:=x.2.2.2.2.2.2.2.2.2
abbrev pf10{A0 A1 A2 A3 A4 A5 A6 A7 A8 A9 A10:Type}(x:A0×A1×A2×A3×A4×A5×A6×A7×A8×A9×A10):A10:=x.2.2.2.2.2.2.2.2.2.2
abbrev pf11{A0 A1 A2 A3 A4 A5 A6 A7 A8 A9 A10 A11:Type}(x:A0×A1×A2×A3×A4×A5×A6×A7×A8×A9×A10×A11):A11:=x.2.2.2.2.2.2.2.2.2.2.2
abbrev pf13{A0 A1 A2 A3 A4 A5 A6 A7 A8 A9 A10 A11 A12 A13:Type}(x:A0×A1×A2×A3×A4×A5×A6×A7×A8×A9×A10×A11×A12×A13):A13:=x.2.2.2.2.2.2.2.2.2.2.2.2.2
abbrev pf15{A0 A1 A2 A3 A4 A5 A6 A7 A8 A9 A10 A11 A12 A13 A14 A15:Type}(x:A0×A1×A2×A3×A4×A5×A6×A7×A8×A9×A10×A11×A12×A13×A14×A15):A15:=x.2.2.2.2.2.2.2.2.2.2.2.2.2.2.2
noncomputable section
def qnw:Shp:=⟨[(0, .d true az.ty)],[]⟩
abbrev qr7:Ctx (az):=⟨51,tt,false,false,[],ge [],gv [ao _ 51 [] qx6 (C:=(ByteArray×(List ByteArray)×Int×Int×(List af)×Int×Int×Int×Int×Int)) (S:=(Int×(List af))) (fun x=>((x.1.1,(pe3 x.1),(pe4 x.1),x.2.1.1,x.2.1.2.1,x.2.1.2.2.1,(pe3 x.2.1),x.2.2.1.1,x.2.2.1.2.2.1,(pe3 x.2.2.1)),((pe5 x.1),(pe3 x)))) qx5 (CE:=(ByteArray×Int×(List af)×Int×Int×Int×Int×Int)) (E:=(List af)) (fun c e=>((c.1,(),(),()),((c.2.1,c.2.2.1,(pe3 c),(pe4 c),()),((pe5 c),(),(pe6 c),(pf7 c),()),e,()))) (fun c=>(c.1,(pe3 c),(pe4 c),(pe5 c),(pe6 c),(pe7 c),(pe8 c),(pf9 c))) (fun{R} c a nx dn rt=>qk1 c.1 c.2.1 c.2.2.1 (pe3 c) (pe4 c) (pe5 c) (pe6 c) (pe7 c) (pe8 c) (pf9 c) a.1 a.2 nx dn rt)],bq 51 tt [] [.cell 4 24] qnw (fun x=>x.1.1)⟩
theorem qr5:CtxM Try.prog qr7:=ic fits mixed m0
theorem q1f:aw Try.prog qr7 0 (lc 0 Try.f33 75):=lp rfl qr5 .z s0 (fun c a=>((c.1,(),(),c.2.1,c.2.2.1,a.1,()),(((pe3 c),(pe4 c),(pe5 c),(pe6 c),()),((pe7 c),(),(pe8 c),(pf9 c),()),a.2,()))) (fun y=>((y.1.1,y.2.1.1,y.2.1.2.1,y.2.1.2.2.1,(pe3 y.2.1),y.2.2.1.1,y.2.2.1.2.2.1,(pe3 y.2.2.1)),(pe3 y)))
abbrev qr6:Mdl:=(au (.cons (.d false .str) (.cons (.d false (.slice .str)) .nil)) [] [] 1 qnw (B:=az) (fun b=>((b,()),(()))) (fun a=>qlz a.1.1 a.1.2.1))
theorem qx7:MdlOK Try.prog 33 qr6:=g9 Try.func33 rfl qr5 (.two .z (.two .z (.two (.two .z (.s 0)) .z))) (sC q1f s0)
def qk6:Shp:=⟨[qc3],[]⟩
abbrev q1m:Ctx (Bool):=⟨17,tt,false,false,[],ge [],gv [],bq 17 tt [] [.tmp 2] qk6 (fun x=>x.1.1)⟩
theorem q1l:CtxM Try.prog q1m:=ic fits mixed m0
abbrev qfu:Mdl:=(au (.cons (.d false (.int .u8)) .nil) [] [] 1 qk6 (B:=Bool) (fun b=>((b,()),(()))) (fun a=>yx a.1.1))
theorem qin:MdlOK Try.prog 119 qfu:=g9 Try.func119 rfl q1l .z s0
def qsa:Shp:=⟨[qc3],[]⟩
abbrev q5w:Ctx (Bool):=⟨25,tt,false,false,[],ge [(119,qfu)],gv [],bq 25 tt [] [.tmp 2] qsa (fun x=>x.1.1)⟩
theorem q5v:CtxM Try.prog q5w:=ic fits mixed (mC qin m0)
abbrev qwd:Mdl:=(au (.cons (.d false (.int .u8)) .nil) [] [] 1 qsa (B:=Bool) (fun b=>((b,()),(()))) (fun a=>qjv a.1.1))
theorem q1n:MdlOK Try.prog 120 qwd:=g9 Try.func120 rfl q5v .z s0
def qk5:Shp:=⟨[qc3],[]⟩
abbrev qn5:Ctx (Bool):=⟨29,tt,false,false,[],ge [(119,qfu),(120,qwd)],gv [ao _ 29 [] qwb (C:=(ByteArray×Int)) (S:=Int) (fun x=>((x.1.1,x.1.2.1),x.1.2.2.1)) qwa (CE:=Unit) (E:=Unit) (fun c e=>((()),(()))) (fun c=>()) (fun{R} c a nx dn rt=>ph c.1 c.2 a nx dn rt)],bq 29 tt [] [.tmp 2] qk5 (fun x=>x.1.1)⟩
theorem qn3:CtxM Try.prog qn5:=ic fits mixed (mC qin (mC q1n m0))
theorem qyh:aw Try.prog qn5 0 (lc 0 Try.f108 75):=lp rfl qn3 .z s0 (fun c a=>((c.1,c.2,a,()),(()))) (fun y=>((),()))
abbrev qn4:Mdl:=(au (.cons (.d false .str) .nil) [] [] 1 qk5 (B:=Bool) (fun b=>((b,()),(()))) (fun a=>qcs a.1.1))
theorem qwc:MdlOK Try.prog 108 qn4:=g9 Try.func108 rfl qn3 (.two .z (.two .z (.two (.two .z (.s 0)) .z))) (sC qyh s0)
def qiv:Shp:=⟨[qc3],[]⟩
abbrev qlf:Ctx (Bool):=⟨36,tt,false,false,[],ge [],gv [ao _ 36 [] qtx (C:=(qL1×qL1×Int×Int×(List af)×Int×Int)) (S:=Int) (fun x=>((x.1.1,x.1.2.2.1,(pe3 x.1),x.2.1.1,x.2.1.2.1,x.2.1.2.2.1,(pe3 x.2.1)),(pe4 x.1))) qtw (CE:=Unit) (E:=Unit) (fun c e=>((()),(()))) (fun c=>()) (fun{R} c a nx dn rt=>l0 c.1 c.2.1 c.2.2.1 (pe3 c) (pe4 c) (pe5 c) (pf6 c) a nx dn rt)],bq 36 tt [] [.tmp 4] qiv (fun x=>x.1.1)⟩
theorem qld:CtxM Try.prog qlf:=ic fits mixed m0
theorem qwt:aw Try.prog qlf 0 (lc 0 Try.f109 37):=lp rfl qld .z s0 (fun c a=>((c.1,(),c.2.1,c.2.2.1,a,()),(((pe3 c),(pe4 c),(pe5 c),(pf6 c),()),()))) (fun y=>((),()))
abbrev qle:Mdl:=(au (.cons (.d false az.ty) (.cons (.d false qT1) .nil)) [] [] 1 qiv (B:=Bool) (fun b=>((b,()),(()))) (fun a=>jy a.1.1 a.1.2.1))
theorem qty:MdlOK Try.prog 109 qle:=g9 Try.func109 rfl qld (.two .z (.two (.two .z (.s 0)) .z)) (sC qwt s0)
def qlb:Shp:=⟨[qc3],[]⟩
abbrev qod:Ctx (Bool):=⟨62,tt,false,false,[],ge [(108,qn4),(109,qle)],gv [ao _ 62 [] qwo (C:=((List af)×Int×Int×(List af)×Int×Int)) (S:=Int) (fun x=>((x.1.2.1,x.1.2.2.1,x.2.1.1,x.2.1.2.1,x.2.1.2.2.1,(pe3 x.2.1)),(pe3 x.1))) qwn (CE:=(Int×(List af)×Int×Int)) (E:=Unit) (fun c e=>(((),()),((c.1,c.2.1,c.2.2.1,c.2.2.2,()),()))) (fun c=>(c.2.2.1,(pe3 c),(pe4 c),(pf5 c))) (fun{R} c a nx dn rt=>u7 c.1 c.2.1 c.2.2.1 (pe3 c) (pe4 c) (pf5 c) a nx dn rt)],bq 62 tt [] [.tmp 2] qlb (fun x=>x.1.1)⟩
theorem qoc:CtxM Try.prog qod:=ic fits mixed (mC qwc (mC qty m0))
theorem qyj:aw Try.prog qod 0 (lc 0 Try.f85 75):=lp rfl qoc .z s0 (fun c a=>(((),c.1,c.2.1,a,()),((c.2.2.1,(pe3 c),(pe4 c),(pf5 c),()),()))) (fun y=>((y.2.1.1,y.2.1.2.1,y.2.1.2.2.1,(pe3 y.2.1)),()))
abbrev u9:Mdl:=(au (.cons (.d false az.ty) .nil) [] [] 1 qlb (B:=Bool) (fun b=>((b,()),(()))) (fun a=>pi a.1.1))
theorem va:MdlOK Try.prog 85 u9:=g9 Try.func85 rfl qoc (.two .z (.two .z (.two (.two .z (.s 0)) .z))) (sC qyj s0)
def wd:Shp:=⟨[q2y],[]⟩
abbrev w9:Ctx (Int):=⟨19,tt,false,false,[],ge [],gv [ao _ 19 [] qe5 (C:=(qL1×Int×Int)) (S:=Int) (fun x=>((x.1.1,x.1.2.1,x.1.2.2.1),(pe3 x.1))) qe4 (CE:=Unit) (E:=Unit) (fun c e=>((()),(()))) (fun c=>()) (fun{R} c a nx dn rt=>jf c.1 c.2.1 c.2.2 a nx dn rt)],bq 19 tt [] [.tmp 4] wd (fun x=>x.1.1)⟩
theorem wy:CtxM Try.prog w9:=ic fits mixed m0
theorem qf4:aw Try.prog w9 0 (lc 0 Try.f115 37):=lp rfl wy .z s0 (fun c a=>((c.1,c.2.1,c.2.2,a,()),(()))) (fun y=>((),()))
abbrev wz:Mdl:=(au (.cons (.d false qT1) (.cons (.d false qT0) .nil)) [] [] 1 wd (B:=Int) (fun b=>((b,()),(()))) (fun a=>pu a.1.1 a.1.2.1))
theorem qe6:MdlOK Try.prog 115 wz:=g9 Try.func115 rfl wy (.two .z (.two (.two .z (.s 0)) .z)) (sC qf4 s0)
def qy:Shp:=⟨[qc3],[]⟩
abbrev qdg:Ctx (Bool):=⟨9,tt,false,false,[],ge [(115,wz)],gv [],bq 9 tt [] [.tmp 4] qy (fun x=>x.1.1)⟩
theorem qdf:CtxM Try.prog qdg:=ic fits mixed (mC qe6 m0)
abbrev sq:Mdl:=(au (.cons (.d false qT1) (.cons (.d false qT0) .nil)) [] [] 1 qy (B:=Bool) (fun b=>((b,()),(()))) (fun a=>ff a.1.1 a.1.2.1))
theorem qb4:MdlOK Try.prog 100 sq:=g9 Try.func100 rfl qdf .z s0
def qcw:Shp:=⟨[qc3],[]⟩
abbrev qrb:Ctx (Bool):=⟨8,tt,false,false,[],ge [],gv [],bq 8 tt [] [.tmp 3] qcw (fun x=>x.1.1)⟩
theorem qra:CtxM Try.prog qrb:=ic fits mixed m0
abbrev qej:Mdl:=(au (.cons (.d false qT0) (.cons (.rp false (.slice .bool)) .nil)) [] [] 1 qcw (B:=Bool) (fun b=>((b,()),(()))) (fun a=>sy a.1.1 a.1.2.1))
theorem qmp:MdlOK Try.prog 116 qej:=g9 Try.func116 rfl qra .z s0
def ne:Shp:=⟨[q2y],[]⟩
abbrev nr:Ctx (Int):=⟨19,tt,false,false,[],ge [(116,qej)],gv [ao _ 19 [] wm (C:=(qL1×(List Bool)×Int)) (S:=Int) (fun x=>((x.1.1,x.1.2.1.1,x.1.2.2.1),(pe3 x.1))) wl (CE:=Unit) (E:=Unit) (fun c e=>((()),(()))) (fun c=>()) (fun{R} c a nx dn rt=>du c.1 c.2.1 c.2.2 a nx dn rt)],bq 19 tt [] [.tmp 4] ne (fun x=>x.1.1)⟩
theorem np:CtxM Try.prog nr:=ic fits mixed (mC qmp m0)
theorem xq:aw Try.prog nr 0 (lc 0 Try.f110 37):=lp rfl np .z s0 (fun c a=>((c.1,(c.2.1,()),c.2.2,a,()),(()))) (fun y=>((),()))
abbrev nq:Mdl:=(au (.cons (.d false qT1) (.cons (.fn 116 (.cons (.rp false (.slice .bool)) .nil)) .nil)) [] [] 1 ne (B:=Int) (fun b=>((b,()),(()))) (fun a=>ji a.1.1 a.1.2.1.1))
theorem wn:MdlOK Try.prog 110 nq:=g9 Try.func110 rfl np (.two .z (.two (.two .z (.s 0)) .z)) (sC xq s0)
def lq:Shp:=⟨[qc3],[]⟩
abbrev v8:Ctx (Bool):=⟨9,tt,false,false,[],ge [(110,nq)],gv [],bq 9 tt [] [.tmp 4] lq (fun x=>x.1.1)⟩
theorem v7:CtxM Try.prog v8:=ic fits mixed (mC wn m0)
abbrev l7:Mdl:=(au (.cons (.d false qT1) (.cons (.fn 116 (.cons (.rp false (.slice .bool)) .nil)) .nil)) [] [] 1 lq (B:=Bool) (fun b=>((b,()),(()))) (fun a=>cf a.1.1 a.1.2.1.1))
theorem tf:MdlOK Try.prog 86 l7:=g9 Try.func86 rfl v7 .z s0
def qgz:Shp:=⟨[jjb,(1, .own 1)],[qxv,qxv]⟩
abbrev ve:Ctx (((List Bool)×(List Bool))):=⟨69,tt,false,false,[],ge [(86,l7)],gv [ao _ 69 [] qq5 (C:=(Bool×Bool×(List af)×Int×Int×qL1×Int×Int×(List af)×Int×Int×(List Bool))) (S:=(Int×(List Bool))) (fun x=>((x.1.1,(pe4 x.1),(pe5 x.1),(pe6 x.1),(pe7 x.1),(pe8 x.1),(pe9 x.1),x.2.1.1,x.2.1.2.1,x.2.1.2.2.1,(pe3 x.2.1),(pe3 x)),((pe10 x.1),(pe4 x)))) qq4 (CE:=(Bool×Bool×(List af)×Int×Int×Int×(List af)×Int×Int×(List Bool))) (E:=(List Bool)) (fun c e=>((c.1,(),(),(),c.2.1,c.2.2.1,(pe3 c),(pe4 c),()),(((pe5 c),(pe6 c),(pe7 c),(pe8 c),()),((),()),(pf9 c),e,()))) (fun c=>(c.1,c.2.1,c.2.2.1,(pe3 c),(pe4 c),(pe7 c),(pe8 c),(pe9 c),(pe10 c),(pf11 c))) (fun{R} c a nx dn rt=>qi c.1 c.2.1 c.2.2.1 (pe3 c) (pe4 c) (pe5 c) (pe6 c) (pe7 c) (pe8 c) (pe9 c) (pe10 c) (pf11 c) a.1 a.2 nx dn rt),ao _ 69 [] qq7 (C:=(Bool×(List af)×Int×Int×(List af)×Int×Int)) (S:=(Bool×Int×(List Bool)×(List Bool))) (fun x=>((x.1.1,(pe5 x.1),(pe6 x.1),x.2.1.1,x.2.1.2.1,x.2.1.2.2.1,(pe3 x.2.1)),((pe4 x.1),(pe7 x.1),(pe3 x),(pe4 x)))) qq6 (CE:=(Bool×Int×(List af)×Int×Int)) (E:=(Bool×(List Bool)×(List Bool))) (fun c e=>((c.1,(),(),(),e.1,()),((c.2.1,c.2.2.1,(pe3 c),(pf4 c),()),((),()),e.2.1,e.2.2,()))) (fun c=>(c.1,(pe3 c),(pe4 c),(pe5 c),(pf6 c))) (fun{R} c a nx dn rt=>fc c.1 c.2.1 c.2.2.1 (pe3 c) (pe4 c) (pe5 c) (pf6 c) a.1 a.2.1 a.2.2.1 a.2.2.2 nx dn rt),ao _ 69 [] qq9 (C:=(Bool×Int×(List af)×Int×Int)) (S:=(Bool×(List Bool)×(List Bool))) (fun x=>((x.1.1,x.2.1.1,x.2.1.2.1,x.2.1.2.2.1,(pe3 x.2.1)),((pe4 x.1),(pe3 x),(pe4 x)))) qq8 (CE:=Unit) (E:=((List Bool)×(List Bool))) (fun c e=>(((),(),()),(((),()),e.1,e.2,()))) (fun c=>()) (fun{R} c a nx dn rt=>xm c.1 c.2.1 c.2.2.1 (pe3 c) (pf4 c) a.1 a.2.1 a.2.2 nx dn rt)],bq 69 tt [] [.tmp 6, .tmp 7] qgz (fun x=>(x.2.1,x.2.2.1))⟩
theorem vc:CtxM Try.prog ve:=ic fits mixed (mC tf m0)
theorem qtz:aw Try.prog ve 0 (lc 4 Try.f101 41838231):=lp rfl vc .z s0 (fun c a=>((c.1,(),(),(),c.2.1,c.2.2.1,(pe3 c),(pe4 c),(pe5 c),(pe6 c),a.1,()),(((pe7 c),(pe8 c),(pe9 c),(pe10 c),()),((),()),(pf11 c),a.2,()))) (fun y=>((y.1.1,(pe4 y.1),(pe5 y.1),(pe6 y.1),(pe7 y.1),y.2.1.1,y.2.1.2.1,y.2.1.2.2.1,(pe3 y.2.1),(pe3 y)),(pe4 y)))
theorem qt0:aw Try.prog ve 1 (lc 2 Try.f101 9879):=lp rfl vc (.two .z (.two .z (.two (.one (.two .z (.two (.d [0,1,0,4,3,31] [] []) (.two .z (.two .z (.two .z (.two .z (.s 0)))))))) .z))) (sC qtz s0) (fun c a=>((c.1,(),(),(),a.1,c.2.1,c.2.2.1,a.2.1,()),(((pe3 c),(pe4 c),(pe5 c),(pf6 c),()),((),()),a.2.2.1,a.2.2.2,()))) (fun y=>((y.1.1,y.2.1.1,y.2.1.2.1,y.2.1.2.2.1,(pe3 y.2.1)),((pe4 y.1),(pe3 y),(pe4 y))))
theorem qt1:aw Try.prog ve 2 (lc 0 Try.f101 151):=lp rfl vc (.two .z (.one (.two .z (.two .z (.s 1))))) (sC qt0 s0) (fun c a=>((c.1,(),(),(),a.1,()),((c.2.1,c.2.2.1,(pe3 c),(pf4 c),()),((),()),a.2.1,a.2.2,()))) (fun y=>((),(y.2.2.1,(pe3 y))))
abbrev qiw:Mdl:=(au (.cons (.d false az.ty) (.cons (.d false qT0) (.cons (.d false .bool) .nil))) [] [] 2 qgz (B:=((List Bool)×(List Bool))) (fun b=>(((),(),()),(b.1,b.2,()))) (fun a=>mo a.1.1 a.1.2.1 a.1.2.2.1))
theorem qrc:MdlOK Try.prog 101 qiw:=g9 Try.func101 rfl vc (.two .z (.two (.d [0,1,3,0,8,24,56,0,135,511] [8] []) (.two .z (.two (.two .z (.s 2)) .z)))) (sC qt1 s0)
def ss:Shp:=⟨[q2y],[]⟩
abbrev uc:Ctx (Int):=⟨19,tt,false,false,[],ge [],gv [ao _ 19 [] qcd (C:=((List Bool)×Bool×Int)) (S:=Int) (fun x=>((x.1.1,x.1.2.1,x.1.2.2.1),(pe3 x.1))) qcc (CE:=Unit) (E:=Unit) (fun c e=>((()),(()))) (fun c=>()) (fun{R} c a nx dn rt=>gb c.1 c.2.1 c.2.2 a nx dn rt)],bq 19 tt [] [.tmp 4] ss (fun x=>x.1.1)⟩
theorem ua:CtxM Try.prog uc:=ic fits mixed m0
theorem qdh:aw Try.prog uc 0 (lc 0 Try.f117 37):=lp rfl ua .z s0 (fun c a=>((c.1,c.2.1,c.2.2,a,()),(()))) (fun y=>((),()))
abbrev ub:Mdl:=(au (.cons (.d false (.slice .bool)) (.cons (.d false .bool) .nil)) [] [] 1 ss (B:=Int) (fun b=>((b,()),(()))) (fun a=>n9 a.1.1 a.1.2.1))
theorem qce:MdlOK Try.prog 117 ub:=g9 Try.func117 rfl ua (.two .z (.two (.two .z (.s 0)) .z)) (sC qdh s0)
def o6:Shp:=⟨[qc3],[]⟩
abbrev qb3:Ctx (Bool):=⟨9,tt,false,false,[],ge [(117,ub)],gv [],bq 9 tt [] [.tmp 4] o6 (fun x=>x.1.1)⟩
theorem qb2:CtxM Try.prog qb3:=ic fits mixed (mC qce m0)
abbrev po:Mdl:=(au (.cons (.d false (.slice .bool)) (.cons (.d false .bool) .nil)) [] [] 1 o6 (B:=Bool) (fun b=>((b,()),(()))) (fun a=>bv a.1.1 a.1.2.1))
theorem zy:MdlOK Try.prog 102 po:=g9 Try.func102 rfl qb2 .z s0
def qee:Shp:=⟨[qc3],[]⟩
abbrev zn:Ctx (Bool):=⟨65,tt,false,false,[],ge [(85,u9),(100,sq),(101,qiw),(102,po)],gv [ao _ 65 [] qoh (C:=((List af)×Int×Int×(List af)×Int×Int)) (S:=Int) (fun x=>((x.1.2.1,x.1.2.2.1,x.2.1.1,x.2.1.2.1,x.2.1.2.2.1,(pe3 x.2.1)),(pe3 x.1))) qog (CE:=(Int×(List af)×Int×Int)) (E:=Unit) (fun c e=>(((),()),((c.1,c.2.1,c.2.2.1,c.2.2.2,()),()))) (fun c=>(c.2.2.1,(pe3 c),(pe4 c),(pf5 c))) (fun{R} c a nx dn rt=>oy c.1 c.2.1 c.2.2.1 (pe3 c) (pe4 c) (pf5 c) a nx dn rt),ao _ 65 [] qoj (C:=((List Bool)×Int×Int×(List af)×Int×Int)) (S:=Int) (fun x=>((x.1.2.1,x.1.2.2.1,x.2.1.1,x.2.1.2.1,x.2.1.2.2.1,(pe3 x.2.1)),(pe3 x.1))) qoi (CE:=Unit) (E:=Unit) (fun c e=>((()),(()))) (fun c=>()) (fun{R} c a nx dn rt=>oz c.1 c.2.1 c.2.2.1 (pe3 c) (pe4 c) (pf5 c) a nx dn rt)],bq 65 tt [] [.tmp 2] qee (fun x=>x.1.1)⟩
theorem zm:CtxM Try.prog zn:=ic fits mixed (mC va (mC qb4 (mC qrc (mC zy m0))))
theorem qqz:aw Try.prog zn 1 (lc 2 Try.f76 151):=lp rfl zm .z s0 (fun c a=>(((),c.1,c.2.1,a,()),((c.2.2.1,(pe3 c),(pe4 c),(pf5 c),()),()))) (fun y=>((),()))
theorem qqy:aw Try.prog zn 0 (lc 0 Try.f76 75):=lp rfl zm .z s0 (fun c a=>(((),c.1,c.2.1,a,()),((c.2.2.1,(pe3 c),(pe4 c),(pf5 c),()),()))) (fun y=>((y.2.1.1,y.2.1.2.1,y.2.1.2.2.1,(pe3 y.2.1)),()))
abbrev qgv:Mdl:=(au (.cons (.d false az.ty) .nil) [] [] 1 qee (B:=Bool) (fun b=>((b,()),(()))) (fun a=>eu a.1.1))
theorem qok:MdlOK Try.prog 76 qgv:=g9 Try.func76 rfl zm (.two .z (.two .z (.two (.two .z (.s 0)) (.two (.two .z (.s 1)) .z)))) (sC qqy (sC qqz s0))
def qh8:Shp:=⟨[q2y],[]⟩
abbrev qyd:Ctx (Int):=⟨13,tt,false,false,[],ge [(76,qgv)],gv [],bq 13 tt [] [.tmp 4] qh8 (fun x=>x.1.1)⟩
theorem qyc:CtxM Try.prog qyd:=ic fits mixed (mC qok m0)
abbrev qdb:Mdl:=(au (.cons (.d false az.ty) (.cons (.d false az.ty) .nil)) [] [] 1 qh8 (B:=Int) (fun b=>((b,()),(()))) (fun a=>qau a.1.1 a.1.2.1))
theorem qgm:MdlOK Try.prog 43 qdb:=g9 Try.func43 rfl qyc .z s0
def qsj:Shp:=⟨[jjb,jbz],[qpn]⟩
abbrev q55:Ctx ((Int×qL1)):=⟨17,tt,false,false,[],ge [(85,u9)],gv [],bq 17 tt [] [.tmp 4, .tmp 5] qsj (fun x=>(x.1.2.1,x.2.1))⟩
theorem q54:CtxM Try.prog q55:=ic fits mixed (mC va m0)
abbrev qmo:Mdl:=(au (.cons (.d false az.ty) (.cons (.d false qT0) .nil)) [] [] 2 qsj (B:=(Int×qL1)) (fun b=>(((),b.1,()),(b.2,()))) (fun a=>qei a.1.1 a.1.2.1))
theorem qoo:MdlOK Try.prog 104 qmo:=g9 Try.func104 rfl q54 .z s0
def qgu:Shp:=⟨[jq0,jbz],[]⟩
abbrev qwj:Ctx ((qL1×Int)):=⟨10,tt,false,false,[],ge [(104,qmo)],gv [],bq 10 tt [] [.tmp 2, .tmp 3] qgu (fun x=>(x.1.1,x.1.2.1))⟩
theorem qwi:CtxM Try.prog qwj:=ic fits mixed (mC qoo m0)
abbrev qbv:Mdl:=(au (.cons (.d false az.ty) .nil) [] [] 2 qgu (B:=(qL1×Int)) (fun b=>((b.1,b.2,()),(()))) (fun a=>r0 a.1.1))
theorem qeb:MdlOK Try.prog 79 qbv:=g9 Try.func79 rfl qwi .z s0
def qcv:Shp:=⟨[qc3],[]⟩
abbrev qq3:Ctx (Bool):=⟨9,tt,false,false,[],ge [],gv [],bq 9 tt [] [.tmp 2] qcv (fun x=>x.1.1)⟩
theorem qq2:CtxM Try.prog qq3:=ic fits mixed m0
abbrev qeh:Mdl:=(au (.cons (.d false qT0) .nil) [] [] 1 qcv (B:=Bool) (fun b=>((b,()),(()))) (fun a=>zp a.1.1))
theorem qmn:MdlOK Try.prog 87 qeh:=g9 Try.func87 rfl qq2 .z s0
def nt:Shp:=⟨[q2y],[]⟩
abbrev om:Ctx (Int):=⟨19,tt,false,false,[],ge [(87,qeh)],gv [ao _ 19 [] xt (C:=(qL1×Int)) (S:=Int) (fun x=>((x.1.1,x.1.2.2.1),(pe3 x.1))) xr (CE:=Unit) (E:=Unit) (fun c e=>((()),(()))) (fun c=>()) (fun{R} c a nx dn rt=>ee c.1 c.2 a nx dn rt)],bq 19 tt [] [.tmp 4] nt (fun x=>x.1.1)⟩
theorem oj:CtxM Try.prog om:=ic fits mixed (mC qmn m0)
theorem y9:aw Try.prog om 0 (lc 0 Try.f110 37):=lp rfl oj .z s0 (fun c a=>((c.1,(()),c.2,a,()),(()))) (fun y=>((),()))
abbrev ol:Mdl:=(au (.cons (.d false qT1) (.cons (.fn 87 .nil) .nil)) [] [] 1 nt (B:=Int) (fun b=>((b,()),(()))) (fun a=>j1 a.1.1))
theorem xu:MdlOK Try.prog 110 ol:=g9 Try.func110 rfl oj (.two .z (.two (.two .z (.s 0)) .z)) (sC y9 s0)
def l8:Shp:=⟨[qc3],[]⟩
abbrev wg:Ctx (Bool):=⟨9,tt,false,false,[],ge [(110,ol)],gv [],bq 9 tt [] [.tmp 4] l8 (fun x=>x.1.1)⟩
theorem we:CtxM Try.prog wg:=ic fits mixed (mC xu m0)
abbrev mr:Mdl:=(au (.cons (.d false qT1) (.cons (.fn 87 .nil) .nil)) [] [] 1 l8 (B:=Bool) (fun b=>((b,()),(()))) (fun a=>ed a.1.1))
theorem ue:MdlOK Try.prog 86 mr:=g9 Try.func86 rfl we .z s0
def qgx:Shp:=⟨[qc3],[]⟩
abbrev qws:Ctx (Bool):=⟨19,tt,false,false,[],ge [(85,u9),(86,mr)],gv [],bq 19 tt [] [.tmp 4] qgx (fun x=>x.1.1)⟩
theorem qwr:CtxM Try.prog qws:=ic fits mixed (mC va (mC ue m0))
abbrev vb:Mdl:=(au (.cons (.d false az.ty) (.cons (.d false qT1) .nil)) [] [] 1 qgx (B:=Bool) (fun b=>((b,()),(()))) (fun a=>kb a.1.1 a.1.2.1))
theorem xl:MdlOK Try.prog 49 vb:=g9 Try.func49 rfl qwr .z s0
def se:Shp:=⟨[jjb],[qpn]⟩
abbrev qey:Ctx (qL1):=⟨8,tt,false,false,[],ge [],gv [],bq 8 tt [] [.tmp 2] se (fun x=>x.2.1)⟩
theorem qew:CtxM Try.prog qey:=ic fits mixed m0
abbrev qex:Mdl:=(au (.cons (.nl false (.d false qT1)) .nil) [] [] 1 se (B:=qL1) (fun b=>(((),()),(b,()))) (fun a=>vy a.1.1))
theorem qca:MdlOK Try.prog 50 qex:=g9 Try.func50 rfl qew .z s0
def mq:Shp:=⟨[jjb],[qpn]⟩
abbrev qe1:Ctx (qL1):=⟨8,tt,false,false,[],ge [],gv [],bq 8 tt [] [.tmp 2] mq (fun x=>x.2.1)⟩
theorem qez:CtxM Try.prog qe1:=ic fits mixed m0
abbrev qe0:Mdl:=(au (.cons (.nl true (.d false qT1)) .nil) [] [] 1 mq (B:=qL1) (fun b=>(((),()),(b,()))) (fun a=>jz a.1.1))
theorem qcb:MdlOK Try.prog 50 qe0:=g9 Try.func50 rfl qez .z s0
abbrev gf:Mdl:=(au (.cons (.d false qT1) .nil) [] [] 1 mq (fun(b:qL1)=>(((),()),(b,()))) (fun(a:((qL1×Unit)×(Unit)))=>bt a.1.1))
theorem ja:MdlOK Try.prog 50 gf:=by
 refine q81 (jdh _ _) qca qcb (by kernel_rfl) (fun a b h=>⟨?_,h⟩);obtain⟨⟨xs,u1⟩,u2⟩:=a;cases xs with
 |nil=>exact h
 |cons x l=>
  have e:decide ((((x::l).length:Nat):Int)=0)=false:=decide_eq_false (by simp only[List.length_cons];omega);simp only[bt,jz]at h;simp only[vy,e,cond_false];exact h
def qcu:Shp:=⟨[qc3],[]⟩
abbrev qq1:Ctx (Bool):=⟨9,tt,false,false,[],ge [],gv [],bq 9 tt [] [.tmp 3] qcu (fun x=>x.1.1)⟩
theorem qq0:CtxM Try.prog qq1:=ic fits mixed m0
abbrev qef:Mdl:=(au (.cons (.d false qT0) (.cons (.rp false qT1) .nil)) [] [] 1 qcu (B:=Bool) (fun b=>((b,()),(()))) (fun a=>zo a.1.1 a.1.2.1))
theorem qmm:MdlOK Try.prog 111 qef:=g9 Try.func111 rfl qq0 .z s0
def na:Shp:=⟨[q2y],[]⟩
abbrev nm:Ctx (Int):=⟨19,tt,false,false,[],ge [(111,qef)],gv [ao _ 19 [] wi (C:=(qL1×qL1×Int)) (S:=Int) (fun x=>((x.1.1,x.1.2.1.1,x.1.2.2.1),(pe3 x.1))) wh (CE:=Unit) (E:=Unit) (fun c e=>((()),(()))) (fun c=>()) (fun{R} c a nx dn rt=>dr c.1 c.2.1 c.2.2 a nx dn rt)],bq 19 tt [] [.tmp 4] na (fun x=>x.1.1)⟩
theorem nj:CtxM Try.prog nm:=ic fits mixed (mC qmm m0)
theorem xp:aw Try.prog nm 0 (lc 0 Try.f110 37):=lp rfl nj .z s0 (fun c a=>((c.1,(c.2.1,()),c.2.2,a,()),(()))) (fun y=>((),()))
abbrev nk:Mdl:=(au (.cons (.d false qT1) (.cons (.fn 111 (.cons (.rp false qT1) .nil)) .nil)) [] [] 1 na (B:=Int) (fun b=>((b,()),(()))) (fun a=>jh a.1.1 a.1.2.1.1))
theorem wj:MdlOK Try.prog 110 nk:=g9 Try.func110 rfl nj (.two .z (.two (.two .z (.s 0)) .z)) (sC xp s0)
def ln:Shp:=⟨[qc3],[]⟩
abbrev v6:Ctx (Bool):=⟨9,tt,false,false,[],ge [(110,nk)],gv [],bq 9 tt [] [.tmp 4] ln (fun x=>x.1.1)⟩
theorem vz:CtxM Try.prog v6:=ic fits mixed (mC wj m0)
abbrev l6:Mdl:=(au (.cons (.d false qT1) (.cons (.fn 111 (.cons (.rp false qT1) .nil)) .nil)) [] [] 1 ln (B:=Bool) (fun b=>((b,()),(()))) (fun a=>f8 a.1.1 a.1.2.1.1))
theorem te:MdlOK Try.prog 86 l6:=g9 Try.func86 rfl vz .z s0
def qgw:Shp:=⟨[qc3],[]⟩
abbrev qwq:Ctx (Bool):=⟨10,tt,false,false,[],ge [(86,l6)],gv [],bq 10 tt [] [.tmp 4] qgw (fun x=>x.1.1)⟩
theorem qwp:CtxM Try.prog qwq:=ic fits mixed (mC te m0)
abbrev qbw:Mdl:=(au (.cons (.d false af.ty) (.cons (.d false qT1) .nil)) [] [] 1 qgw (B:=Bool) (fun b=>((b,()),(()))) (fun a=>sc a.1.1 a.1.2.1))
theorem qeg:MdlOK Try.prog 88 qbw:=g9 Try.func88 rfl qwp .z s0
def zb:Shp:=⟨[q2y],[]⟩
abbrev qaq:Ctx (Int):=⟨25,tt,false,false,[],ge [],gv [ao _ 25 [] qhi (C:=qL1) (S:=(Int×Int)) (fun x=>(x.1.1,(x.1.2.1,x.1.2.2.1))) qhh (CE:=Unit) (E:=Int) (fun c e=>((e,()),(()))) (fun c=>()) (fun{R} c a nx dn rt=>ll c a.1 a.2 nx dn rt)],bq 25 tt [] [.tmp 2] zb (fun x=>x.1.1)⟩
theorem qao:CtxM Try.prog qaq:=ic fits mixed m0
theorem qjg:aw Try.prog qaq 0 (lc 0 Try.f89 151):=lp rfl qao .z s0 (fun c a=>((c,a.1,a.2,()),(()))) (fun y=>((),y.1.1))
abbrev qap:Mdl:=(au (.cons (.d false qT1) .nil) [] [] 1 zb (B:=Int) (fun b=>((b,()),(()))) (fun a=>oa a.1.1))
theorem qhj:MdlOK Try.prog 89 qap:=g9 Try.func89 rfl qao (.two .z (.two .z (.two .z (.two (.two .z (.s 0)) .z)))) (sC qjg s0)
def qon:Shp:=⟨[jjb,jbz],[qpn]⟩
abbrev qit:Ctx ((Int×qL1)):=⟨66,tt,false,false,[],ge [(88,qbw),(50,gf),(89,qap)],gv [ao _ 66 [] qyo (C:=(qL1×Int×ByteArray×qL1×qL1)) (S:=(Int×qL1)) (fun x=>((x.1.2.2.1,(pe3 x.1),x.2.1.1,x.2.1.2.1,x.2.1.2.2.1),((pe4 x.1),x.2.2.1))) qyn (CE:=(ByteArray×qL1×qL1)) (E:=qL1) (fun c e=>(((),(),()),((c.1,c.2.1,c.2.2,()),e,()))) (fun c=>(c.2.2.1,(pe3 c),(pf4 c))) (fun{R} c a nx dn rt=>x7 c.1 c.2.1 c.2.2.1 (pe3 c) (pf4 c) a.1 a.2 nx dn rt),ao _ 66 [] qyq (C:=(qL1×Int)) (S:=(Int×qL1)) (fun x=>((x.1.2.1,x.1.2.2.1),((pe3 x.1),x.2.1))) qyp (CE:=Unit) (E:=qL1) (fun c e=>(((),()),(e,()))) (fun c=>()) (fun{R} c a nx dn rt=>x8 c.1 c.2 a.1 a.2 nx dn rt)],bq 66 tt [] [.tmp 6, .tmp 7] qon (fun x=>(x.1.2.1,x.2.1))⟩
theorem qir:CtxM Try.prog qit:=ic fits mixed (mC qeg (mC ja (mC qhj m0)))
theorem q11:aw Try.prog qit 1 (lc 2 Try.f51 1215):=lp rfl qir .z s0 (fun c a=>(((),c.1,c.2,a.1,()),(a.2,()))) (fun y=>((),y.2.1))
theorem q1z:aw Try.prog qit 0 (lc 0 Try.f51 607):=lp rfl qir .z s0 (fun c a=>(((),(),c.1,c.2.1,a.1,()),((c.2.2.1,(pe3 c),(pf4 c),()),a.2,()))) (fun y=>((y.2.1.1,y.2.1.2.1,y.2.1.2.2.1),y.2.2.1))
abbrev qis:Mdl:=(au (.cons (.d false az.ty) (.cons (.d false qT1) (.cons (.d false qT0) .nil))) [] [] 2 qon (B:=(Int×qL1)) (fun b=>(((),b.1,()),(b.2,()))) (fun a=>mn a.1.1 a.1.2.1 a.1.2.2.1))
theorem qlc:MdlOK Try.prog 51 qis:=g9 Try.func51 rfl qir (.two .z (.two .z (.two .z (.two .z (.two .z (.two (.two .z (.s 0)) (.two (.two .z (.s 1)) .z))))))) (sC q1z (sC q11 s0))
def qsf:Shp:=⟨[jq0,jbz,qxt],[]⟩
abbrev qwm:Ctx ((qL1×Int×Int)):=⟨48,tt,false,false,[],ge [(49,vb),(50,gf),(51,qis)],gv [ao _ 48 [] q1w (C:=(qL1×qL1×Int×Int×(List af)×Int×Int)) (S:=(qL1×Int)) (fun x=>((x.1.1,(pe3 x.1),(pe4 x.1),x.2.1.1,x.2.1.2.1,x.2.1.2.2.1,(pe3 x.2.1)),(x.1.2.2.1,(pe5 x.1)))) q1v (CE:=qL1) (E:=qL1) (fun c e=>((c,e,()),(()))) (fun c=>c.1) (fun{R} c a nx dn rt=>u6 c.1 c.2.1 c.2.2.1 (pe3 c) (pe4 c) (pe5 c) (pf6 c) a.1 a.2 nx dn rt)],bq 48 tt [] [.tmp 6, .tmp 7, .tmp 8] qsf (fun x=>(x.1.1,x.1.2.1,x.1.2.2.1))⟩
theorem qwk:CtxM Try.prog qwm:=ic fits mixed (mC xl (mC ja (mC qlc m0)))
theorem q4d:aw Try.prog qwm 0 (lc 1 Try.f14 151):=lp rfl qwk .z s0 (fun c a=>((c.1,(),a.1,c.2.1,c.2.2.1,a.2,()),(((pe3 c),(pe4 c),(pe5 c),(pf6 c),()),()))) (fun y=>(y.1.1,y.1.2.1))
abbrev qwl:Mdl:=(au (.cons (.d false az.ty) (.cons (.d false qT1) (.cons (.d false qT1) .nil))) [] [] 3 qsf (B:=(qL1×Int×Int)) (fun b=>((b.1,b.2.1,b.2.2,()),(()))) (fun a=>qjx a.1.1 a.1.2.1 a.1.2.2.1))
theorem q1x:MdlOK Try.prog 14 qwl:=g9 Try.func14 rfl qwk (.two .z (.two .z (.two .z (.two (.two .z (.s 0)) .z)))) (sC q4d s0)
def qof:Shp:=⟨[jtj,jbz],[q9m]⟩
abbrev qsi:Ctx ((Int×(List ByteArray))):=⟨47,tt,false,false,[],ge [(85,u9)],gv [ao _ 47 [] qyl (C:=(qL1×Int×Int×(List af)×Int×Int)) (S:=(Int×(List ByteArray))) (fun x=>((x.1.2.2.1,(pe3 x.1),x.2.1.1,x.2.1.2.1,x.2.1.2.2.1,(pe3 x.2.1)),((pe4 x.1),x.2.2.1))) qyk (CE:=Unit) (E:=(List ByteArray)) (fun c e=>(((),()),(e,()))) (fun c=>()) (fun{R} c a nx dn rt=>x6 c.1 c.2.1 c.2.2.1 (pe3 c) (pe4 c) (pf5 c) a.1 a.2 nx dn rt)],bq 47 tt [] [.tmp 4, .tmp 5] qof (fun x=>(x.1.2.1,x.2.1))⟩
theorem qsg:CtxM Try.prog qsi:=ic fits mixed (mC va m0)
theorem q1y:aw Try.prog qsi 0 (lc 1 Try.f80 151):=lp rfl qsg .z s0 (fun c a=>(((),(),c.1,c.2.1,a.1,()),((c.2.2.1,(pe3 c),(pe4 c),(pf5 c),()),a.2,()))) (fun y=>((),y.2.1))
abbrev qsh:Mdl:=(au (.cons (.d false az.ty) (.cons (.d false qT1) .nil)) [] [] 2 qof (B:=(Int×(List ByteArray))) (fun b=>(((),b.1,()),(b.2,()))) (fun a=>qfw a.1.1 a.1.2.1))
theorem qym:MdlOK Try.prog 80 qsh:=g9 Try.func80 rfl qsg (.two .z (.two .z (.two .z (.two (.two .z (.s 0)) .z)))) (sC q1y s0)
def qcl:Shp:=⟨[jq0,jtu,jqe],[q9m]⟩
abbrev qqc:Ctx ((qL1×Bool×(List ByteArray))):=⟨37,tt,false,false,[],ge [(79,qbv),(14,qwl),(80,qsh)],gv [],bq 37 tt [] [.tmp 4, .tmp 5, .tmp 6] qcl (fun x=>(x.1.1,x.1.2.2.1,x.2.1))⟩
theorem qqb:CtxM Try.prog qqc:=ic fits mixed (mC qeb (mC q1x (mC qym m0)))
abbrev xg:Mdl:=(au (.cons (.d false az.ty) (.cons (.d false qT1) .nil)) [] [] 3 qcl (B:=(qL1×Bool×(List ByteArray))) (fun b=>((b.1,(),b.2.1,()),(b.2.2,()))) (fun a=>lz a.1.1 a.1.2.1))
theorem qbj:MdlOK Try.prog 45 xg:=g9 Try.func45 rfl qqb .z s0
def qgl:Shp:=⟨[jq0,jtu,qxt],[q9m]⟩
abbrev qv4:Ctx ((qL1×Int×(List ByteArray))):=⟨40,tt,false,false,[],ge [(43,qdb),(45,xg)],gv [],bq 40 tt [] [.tmp 8, .tmp 9, .tmp 10] qgl (fun x=>(x.1.1,x.1.2.2.1,x.2.1))⟩
theorem qv3:CtxM Try.prog qv4:=ic fits mixed (mC qgm (mC qbj m0))
abbrev qbh:Mdl:=(au (.cons (.d false az.ty) (.cons (.d false az.ty) (.cons (.d false qT1) (.cons (.d false qT0) .nil)))) [] [] 3 qgl (B:=(qL1×Int×(List ByteArray))) (fun b=>((b.1,(),b.2.1,()),(b.2.2,()))) (fun a=>mm a.1.1 a.1.2.1 a.1.2.2.1 (pe3 a.1)))
theorem qdx:MdlOK Try.prog 58 qbh:=g9 Try.func58 rfl qv3 .z s0
def qyb:Shp:=⟨[jte],[]⟩
abbrev qat:Mdl:=(au (.cons (.d false qT1) .nil) [] [] 1 qyb (B:=ByteArray) (fun b=>((b,()),(()))) (fun a=>ia a.1.1))
theorem qbq:MdlOK Try.prog 93 qat:=jcz _
def qob:Shp:=⟨[jjb,jbz],[qpn]⟩
abbrev q4c:Ctx ((Int×qL1)):=⟨18,tt,false,false,[],ge [(49,vb),(51,qis)],gv [],bq 18 tt [] [.tmp 6, .tmp 7] qob (fun x=>(x.1.2.1,x.2.1))⟩
theorem q4b:CtxM Try.prog q4c:=ic fits mixed (mC xl (mC qlc m0))
abbrev qsd:Mdl:=(au (.cons (.d false az.ty) (.cons (.d false qT1) (.cons (.d false qT0) .nil))) [] [] 2 qob (B:=(Int×qL1)) (fun b=>(((),b.1,()),(b.2,()))) (fun a=>xk a.1.1 a.1.2.1 a.1.2.2.1))
theorem qyi:MdlOK Try.prog 16 qsd:=g9 Try.func16 rfl q4b .z s0
def qgp:Shp:=⟨[jtj],[jqc]⟩
abbrev qil:Ctx ((List ag)):=⟨32,tt,false,false,[],ge [(16,qsd)],gv [ao _ 32 [] qqp (C:=(qL1×Int×Int×(List af)×Int×Int)) (S:=(Int×(List ag))) (fun x=>((x.1.1,(pe3 x.1),x.2.1.1,x.2.1.2.1,x.2.1.2.2.1,(pe3 x.2.1)),((pe4 x.1),x.2.2.1))) qqo (CE:=Unit) (E:=(List ag)) (fun c e=>(((),()),(e,()))) (fun c=>()) (fun{R} c a nx dn rt=>qe c.1 c.2.1 c.2.2.1 (pe3 c) (pe4 c) (pf5 c) a.1 a.2 nx dn rt)],bq 32 tt [] [.tmp 4] qgp (fun x=>x.2.1)⟩
theorem qik:CtxM Try.prog qil:=ic fits mixed (mC qyi m0)
theorem qtt:aw Try.prog qil 0 (lc 0 Try.f94 75):=lp rfl qik .z s0 (fun c a=>((c.1,(),(),c.2.1,a.1,()),((c.2.2.1,(pe3 c),(pe4 c),(pf5 c),()),a.2,()))) (fun y=>((),y.2.1))
abbrev pg:Mdl:=(au (.cons (.d false az.ty) (.cons (.d false qT1) .nil)) [] [] 1 qgp (B:=(List ag)) (fun b=>(((),()),(b,()))) (fun a=>fm a.1.1 a.1.2.1))
theorem qf:MdlOK Try.prog 94 pg:=g9 Try.func94 rfl qik (.two .z (.two .z (.two (.two .z (.s 0)) .z))) (sC qtt s0)
def qal:Shp:=⟨[jjb,jtt],[qve]⟩
abbrev tc:Ctx ((Bool×(List ab))):=⟨109,tt,false,true,[],ge [(79,qbv),(93,qat),(94,pg),(50,gf)],gv [ao _ 109 [] qib (C:=((List ByteArray)×Int×Int×(List ag)×Int×Int×(List af)×Int×Int×Int×qL1×qL1)) (S:=(Int×(List ab)×(List (ByteArray×Bool)))) (fun x=>((x.1.1,x.1.2.1,(pe5 x.1),(pe7 x.1),(pe8 x.1),x.2.1.1,x.2.1.2.1,x.2.1.2.2.1,(pe3 x.2.1),(pe4 x).1,(pe4 x).2.1,(pe4 x).2.2.1),((pe9 x.1),x.2.2.1,(pe3 x)))) qia (CE:=((List ByteArray)×Int×Int×Int×(List af)×Int×Int)) (E:=((List ab)×(List (ByteArray×Bool)))) (fun c e=>((c.1,c.2.1,(),(),(),c.2.2.1,()),(((pe3 c),(pe4 c),(pe5 c),(pf6 c),()),e.1,e.2,()))) (fun c=>(c.1,c.2.1,c.2.2.1,(pe5 c),(pe6 c),(pe7 c),(pe8 c))) (fun{R} c a nx dn rt=>b8 c.1 c.2.1 c.2.2.1 (pe3 c) (pe4 c) (pe5 c) (pe6 c) (pe7 c) (pe8 c) (pe9 c) (pe10 c) (pf11 c) a.1 a.2.1 a.2.2 nx dn rt),ao _ 109 [] qid (C:=((List ByteArray)×Int×Int×(List af)×Int×Int)) (S:=(Int×(List ab)×(List (ByteArray×Bool)))) (fun x=>((x.1.1,x.1.2.1,x.2.1.1,x.2.1.2.1,x.2.1.2.2.1,(pe3 x.2.1)),((pe5 x.1),x.2.2.1,(pe3 x)))) qic (CE:=Unit) (E:=(List ab)) (fun c e=>(((),()),(e,()))) (fun c=>()) (fun{R} c a nx dn rt=>ib c.1 c.2.1 c.2.2.1 (pe3 c) (pe4 c) (pf5 c) a.1 a.2.1 a.2.2 nx dn rt)],bq 109 tt [] [.tmp 6, .tmp 7] qal (fun x=>(x.1.2.1,x.2.1))⟩
theorem s9:CtxM Try.prog tc:=ic fits mixed (mC qeb (mC qbq (mC qf (mC ja m0))))
theorem qkq:aw Try.prog tc 0 (lc 2 Try.f59 39215):=lp rfl s9 (.two .z (.two .z (.two (.one (.two .z (.two (.d [0,1,0,4,0,16,60,124,252,3,1023] [] []) (.two .z (.two .z (.two .z (.two .z (.two .z (.d [0,0,0,4,0,16,48,0,128,384,1008,2046,4094,8191,16383] [10,11,12,13,14] []))))))))) .z))) s0 (fun c a=>((c.1,c.2.1,(),(),(),c.2.2.1,(),(pe3 c),(pe4 c),a.1,()),(((pe5 c),(pe6 c),(pe7 c),(pe8 c),()),a.2.1,a.2.2,((pe9 c),(pe10 c),(pf11 c),()),()))) (fun y=>((y.1.1,y.1.2.1,(pe5 y.1),y.2.1.1,y.2.1.2.1,y.2.1.2.2.1,(pe3 y.2.1)),(y.2.2.1,(pe3 y))))
theorem qkr:aw Try.prog tc 1 (lc 0 Try.f59 303):=lp rfl s9 (.two .z (.two (.one (.two .z (.two .z (.s 0)))) .z)) (sC qkq s0) (fun c a=>((c.1,c.2.1,(),(),(),a.1,()),((c.2.2.1,(pe3 c),(pe4 c),(pf5 c),()),a.2.1,a.2.2,()))) (fun y=>((),y.2.1))
abbrev ta:Mdl:=(au (.cons (.d false az.ty) (.cons (.d false (.slice .str)) (.cons (.d false qT0) .nil))) [] [] 2 qal (B:=(Bool×(List ab))) (fun b=>(((),b.1,()),(b.2,()))) (fun a=>i9 a.1.1 a.1.2.1 a.1.2.2.1))
theorem yv:MdlOK Try.prog 59 ta:=g9 Try.func59 rfl s9 (.two .z (.two .z (.two .z (.two .z (.two (.two .z (.s 1)) .z))))) (sC qkr s0)
def qdv:Shp:=⟨[qc3],[]⟩
abbrev qtj:Ctx (Bool):=⟨9,tt,false,false,[],ge [],gv [],bq 9 tt [] [.tmp 3] qdv (fun x=>x.1.1)⟩
theorem qti:CtxM Try.prog qtj:=ic fits mixed m0
abbrev zh:Mdl:=(au (.cons (.d false ab.ty) (.cons (.rp false (.slice .str)) .nil)) [] [] 1 qdv (B:=Bool) (fun b=>((b,()),(()))) (fun a=>qbg a.1.1 a.1.2.1))
theorem qcj:MdlOK Try.prog 66 zh:=g9 Try.func66 rfl qti .z s0
def ct:Shp:=⟨[q2y],[]⟩
abbrev c9:Ctx (Int):=⟨19,tt,false,false,[],ge [(66,zh)],gv [ao _ 19 [] iq (C:=((List ab)×(List ByteArray)×Int)) (S:=Int) (fun x=>((x.1.1,x.1.2.1.1,x.1.2.2.1),(pe3 x.1))) io (CE:=Unit) (E:=Unit) (fun c e=>((()),(()))) (fun c=>()) (fun{R} c a nx dn rt=>cl c.1 c.2.1 c.2.2 a nx dn rt)],bq 19 tt [] [.tmp 4] ct (fun x=>x.1.1)⟩
theorem c7:CtxM Try.prog c9:=ic fits mixed (mC qcj m0)
theorem iz:aw Try.prog c9 0 (lc 0 Try.f60 37):=lp rfl c7 .z s0 (fun c a=>((c.1,(c.2.1,()),c.2.2,a,()),(()))) (fun y=>((),()))
abbrev c8:Mdl:=(au (.cons (.d false (.slice ab.ty)) (.cons (.fn 66 (.cons (.rp false (.slice .str)) .nil)) .nil)) [] [] 1 ct (B:=Int) (fun b=>((b,()),(()))) (fun a=>de a.1.1 a.1.2.1.1))
theorem ir:MdlOK Try.prog 60 c8:=g9 Try.func60 rfl c7 (.two .z (.two (.two .z (.s 0)) .z)) (sC iz s0)
def ck:Shp:=⟨[jjb],[qve]⟩
abbrev cp:Ctx ((List ab)):=⟨42,tt,false,false,[false],ge [(60,c8),(66,zh)],gv [ao _ 42 [false] gq (C:=(List ByteArray)) (S:=(Int×Int×(List ab))) (fun x=>(x.1.2.1.1,(x.1.2.2.1,(pe3 x.1),x.2.1))) gp (CE:=Unit) (E:=(Int×(List ab))) (fun c e=>(((),e.1,()),(e.2,()))) (fun c=>()) (fun{R} c a nx dn rt=>ci c a.1 a.2.1 a.2.2 nx dn rt)],bq 42 tt [false] [.tmp 4] ck (fun x=>x.2.1)⟩
theorem cm:CtxM Try.prog cp:=ic fits mixed (mC ir (mC qcj m0))
theorem ii:aw Try.prog cp 0 (lc 0 Try.f65 151):=lp rfl cm .z s0 (fun c a=>(((),(c,()),a.1,a.2.1,()),(a.2.2,()))) (fun y=>((),(y.1.2.1,y.2.1)))
abbrev cn:Mdl:=(au (.cons (.own 0) (.cons (.fn 66 (.cons (.rp false (.slice .str)) .nil)) .nil)) [qve] [false] 1 ck (B:=(List ab)) (fun b=>(((),()),(b,()))) (fun a=>cx a.1.2.1.1 a.2.1))
theorem gu:MdlOK Try.prog 65 cn:=g9 Try.func65 rfl cm (.two .z (.two .z (.two .z (.two (.two .z (.s 0)) .z)))) (sC ii s0)
def qcp:Shp:=⟨[],[qnp, .cs 38 1 1 (.cons (.own 3) .nil),qpz,qjk]⟩
abbrev qqm:Ctx (((List (ByteArray×Bool))×qL2)):=⟨16,tt,false,false,[true,true,true,false],ge [(93,qat)],gv [],bq 16 tt [true,true,true,false] [] qcp (fun x=>((pe3 x),(pe4 x)))⟩
theorem qql:CtxM Try.prog qqm:=ic fits mixed (mC qbq m0)
abbrev qd5:Mdl:=(au (.cons (.d true qT1) (.cons (.ptr 0) (.cons (.ptr 1) .nil))) [qnp, .cs 38 1 1 (.cons (.own 3) .nil),qpz,qjk] [true,true,true,false] 0 qcp (B:=((List (ByteArray×Bool))×qL2)) (fun b=>((()),(((),()),((),()),b.1,b.2,()))) (fun a=>zj a.1.1 (pe3 a) (pe4 a)))
theorem qmh:MdlOK Try.prog 95 qd5:=g9 Try.func95 rfl qql (.two (.d [0,0,2,7,15] [] []) (.two (.two (.d [0,0,2,7] [3] []) .z) .z)) s0
def qgn:Shp:=⟨[(0, .own 1),jtt],[qjk,qjk]⟩
abbrev uz:Ctx ((Bool×qL2×qL2)):=⟨61,tt,false,false,[true],ge [(95,qd5),(94,pg)],gv [ao _ 61 [true] qqg (C:=(Int×Int×qL2×Int×(List af)×Int×Int)) (S:=(Int×qL2×(List (ByteArray×Bool)))) (fun x=>((x.1.1,(pe5 x.1),x.2.1,x.2.2.1.1,x.2.2.1.2.1,x.2.2.1.2.2.1,(pe3 x.2.2.1)),((pe6 x.1),(pe5 x),(pe6 x)))) qqf (CE:=(Int×qL2×Int×(List af)×Int×Int)) (E:=(qL2×(List (ByteArray×Bool)))) (fun c e=>((c.1,(),(),((),(),()),()),(c.2.1,(c.2.2.1,(pe3 c),(pe4 c),(pf5 c),()),((),()),((),()),e.1,e.2,()))) (fun c=>(c.1,c.2.2.1,(pe3 c),(pe4 c),(pe5 c),(pf6 c))) (fun{R} c a nx dn rt=>qd2 c.1 c.2.1 c.2.2.1 (pe3 c) (pe4 c) (pe5 c) (pf6 c) a.1 a.2.1 a.2.2 nx dn rt),ao _ 61 [true] qqi (C:=(Int×Int×(List ag)×Int×qL2×Int×(List af)×Int×Int)) (S:=(Int×qL2×(List (ByteArray×Bool)))) (fun x=>((x.1.1,(pe4 x.1),(pe5 x.1),(pe6 x.1),x.2.1,x.2.2.1.1,x.2.2.1.2.1,x.2.2.1.2.2.1,(pe3 x.2.2.1)),((pe7 x.1),(pe5 x),(pe6 x)))) qqh (CE:=(Int×Int×qL2×Int×(List af)×Int×Int)) (E:=(qL2×(List (ByteArray×Bool)))) (fun c e=>((c.1,(),(),((),(),()),c.2.1,()),(c.2.2.1,((pe3 c),(pe4 c),(pe5 c),(pf6 c),()),((),()),((),()),e.1,e.2,()))) (fun c=>(c.1,c.2.1,(pe4 c),(pe5 c),(pe6 c),(pe7 c),(pf8 c))) (fun{R} c a nx dn rt=>qd3 c.1 c.2.1 c.2.2.1 (pe3 c) (pe4 c) (pe5 c) (pe6 c) (pe7 c) (pf8 c) a.1 a.2.1 a.2.2 nx dn rt),ao _ 61 [true] qqk (C:=(Int×qL2×Int×(List af)×Int×Int)) (S:=(Int×qL2×(List (ByteArray×Bool)))) (fun x=>((x.1.1,x.2.1,x.2.2.1.1,x.2.2.1.2.1,x.2.2.1.2.2.1,(pe3 x.2.2.1)),((pe4 x.1),(pe5 x),(pe6 x)))) qqj (CE:=(Int×qL2)) (E:=qL2) (fun c e=>((c.1,(),()),(c.2,((),()),e,()))) (fun c=>(c.1,c.2.1)) (fun{R} c a nx dn rt=>qd4 c.1 c.2.1 c.2.2.1 (pe3 c) (pe4 c) (pf5 c) a.1 a.2.1 a.2.2 nx dn rt)],bq 61 tt [true] [.tmp 6, .tmp 7] qgn (fun x=>(x.1.2.1,x.2.1,x.2.2.1))⟩
theorem uy:CtxM Try.prog uz:=ic fits mixed (mC qmh (mC qf m0))
theorem qtr:aw Try.prog uz 1 (lc 4 Try.f67 37471):=lp rfl uy .z s0 (fun c a=>((c.1,(),(),((),(),()),c.2.1,c.2.2.1,(pe3 c),a.1,()),((pe4 c),((pe5 c),(pe6 c),(pe7 c),(pf8 c),()),((),()),((),()),a.2.1,a.2.2,()))) (fun y=>((y.1.1,(pe4 y.1),y.2.1,y.2.2.1.1,y.2.2.1.2.1,y.2.2.1.2.2.1,(pe3 y.2.2.1)),((pe5 y),(pe6 y))))
theorem qts:aw Try.prog uz 2 (lc 2 Try.f67 607):=lp rfl uy (.two .z (.two (.one (.two (.d [0,0,0,6,14,31,63,0] [] []) (.s 1))) .z)) (sC qtr s0) (fun c a=>((c.1,(),(),((),(),()),a.1,()),(c.2.1,(c.2.2.1,(pe3 c),(pe4 c),(pf5 c),()),((),()),((),()),a.2.1,a.2.2,()))) (fun y=>((y.1.1,y.2.1),(pe3 y)))
theorem qtq:aw Try.prog uz 0 (lc 0 Try.f67 303):=lp rfl uy .z s0 (fun c a=>((c.1,(),(),((),(),()),(),c.2.1,a.1,()),(c.2.2.1,((pe3 c),(pe4 c),(pe5 c),(pf6 c),()),((),()),((),()),a.2.1,a.2.2,()))) (fun y=>((y.1.1,y.2.1,y.2.2.1.1,y.2.2.1.2.1,y.2.2.1.2.2.1,(pe3 y.2.2.1)),((pe5 y),(pe6 y))))
abbrev qie:Mdl:=(au (.cons (.d false az.ty) (.cons (.own 0) (.cons (.d false qT0) .nil))) [qjk] [true] 2 qgn (B:=(Bool×qL2×qL2)) (fun b=>(((),b.1,()),(b.2.1,b.2.2,()))) (fun a=>qdc a.1.1 a.1.2.2.1 a.2.1))
theorem qqn:MdlOK Try.prog 67 qie:=g9 Try.func67 rfl uy (.two .z (.two .z (.two .z (.two .z (.two (.two .z (.s 0)) (.two (.two .z (.s 2)) (.two (.d [0,0,2,0,14,1,63] [] []) .z))))))) (sC qtq (sC qts s0))
def qh9:Shp:=⟨[jte],[]⟩
abbrev qyf:Ctx (ByteArray):=⟨11,tt,false,false,[],ge [(93,qat)],gv [],bq 11 tt [] [.tmp 4] qh9 (fun x=>x.1.1)⟩
theorem qye:CtxM Try.prog qyf:=ic fits mixed (mC qbq m0)
abbrev oq:Mdl:=(au (.cons (.d false qT1) (.cons (.d false qT1) .nil)) [] [] 1 qh9 (B:=ByteArray) (fun b=>((b,()),(()))) (fun a=>qd a.1.1 a.1.2.1))
theorem oe:MdlOK Try.prog 81 oq:=g9 Try.func81 rfl qye .z s0
def qk9:Shp:=⟨[jjb,jbz],[qpn]⟩
abbrev q1u:Ctx ((Int×qL1)):=⟨10,tt,false,false,[],ge [(104,qmo)],gv [],bq 10 tt [] [.tmp 2, .tmp 3] qk9 (fun x=>(x.1.2.1,x.2.1))⟩
theorem q1t:CtxM Try.prog q1u:=ic fits mixed (mC qoo m0)
abbrev qfv:Mdl:=(au (.cons (.d false az.ty) .nil) [] [] 2 qk9 (B:=(Int×qL1)) (fun b=>(((),b.1,()),(b.2,()))) (fun a=>yz a.1.1))
theorem qiq:MdlOK Try.prog 105 qfv:=g9 Try.func105 rfl q1t .z s0
def wb:Shp:=⟨[qc3],[]⟩
abbrev wx:Ctx (Bool):=⟨26,tt,false,false,[],ge [],gv [ao _ 26 [] qe3 (C:=(qL1×qL1×Int)) (S:=Int) (fun x=>((x.1.1,x.1.2.1,x.1.2.2.1),(pe3 x.1))) qe2 (CE:=Unit) (E:=Unit) (fun c e=>((()),(()))) (fun c=>()) (fun{R} c a nx dn rt=>fg c.1 c.2.1 c.2.2 a nx dn rt)],bq 26 tt [] [.tmp 4] wb (fun x=>x.1.1)⟩
theorem wv:CtxM Try.prog wx:=ic fits mixed m0
theorem qf3:aw Try.prog wx 0 (lc 0 Try.f19 75):=lp rfl wv (.two .z (.two .z (.two (.one (.two .z (.two (.d [0,0,3,7,0,0,48,112,255] [] []) .z))) .z))) s0 (fun c a=>((c.1,c.2.1,c.2.2,a,()),(()))) (fun y=>((),()))
abbrev dg:Mdl:=(au (.cons (.d false qT1) (.cons (.d false qT1) .nil)) [] [] 1 wb (B:=Bool) (fun b=>((b,()),(()))) (fun a=>bc a.1.1 a.1.2.1))
theorem dl:MdlOK Try.prog 19 dg:=g9 Try.func19 rfl wv (.two .z (.two .z (.two (.two .z (.s 0)) .z))) (sC qf3 s0)
def qgt:Shp:=⟨[jtj,jbz],[qpn]⟩
abbrev qip:Ctx ((Int×qL1)):=⟨30,tt,false,false,[],ge [(49,vb),(88,qbw)],gv [ao _ 30 [] qqx (C:=(qL1×(List af)×Int)) (S:=(Int×qL1)) (fun x=>((x.1.1,x.1.2.2.1,(pe3 x.1)),((pe4 x.1),x.2.1))) qqw (CE:=Unit) (E:=qL1) (fun c e=>(((),()),(e,()))) (fun c=>()) (fun{R} c a nx dn rt=>qea c.1 c.2.1 c.2.2 a.1 a.2 nx dn rt)],bq 30 tt [] [.tmp 4, .tmp 5] qgt (fun x=>(x.1.2.1,x.2.1))⟩
theorem qio:CtxM Try.prog qip:=ic fits mixed (mC xl (mC qeg m0))
theorem qtv:aw Try.prog qip 0 (lc 0 Try.f103 151):=lp rfl qio .z s0 (fun c a=>((c.1,(),c.2.1,c.2.2,a.1,()),(a.2,()))) (fun y=>((),y.2.1))
abbrev u5:Mdl:=(au (.cons (.d false az.ty) (.cons (.d false qT1) .nil)) [] [] 2 qgt (B:=(Int×qL1)) (fun b=>(((),b.1,()),(b.2,()))) (fun a=>x5 a.1.1 a.1.2.1))
theorem xj:MdlOK Try.prog 103 u5:=g9 Try.func103 rfl qio (.two .z (.two .z (.two .z (.two (.two .z (.s 0)) .z)))) (sC qtv s0)
def yr:Shp:=⟨[qc3],[qxw,qpz]⟩
abbrev qka:Ctx ((Bool×(List (ByteArray×Bool)))):=⟨11,tt,false,false,[true,true],ge [(81,oq)],gv [],bq 11 tt [true,true] [.tmp 5] yr (fun x=>(x.1.1,x.2.2.1))⟩
theorem qj9:CtxM Try.prog qka:=ic fits mixed (mC oe m0)
abbrev rf:Mdl:=(au (.cons (.d false qT1) (.cons (.d false qT1) (.cons (.ptr 0) .nil))) [qxw,qpz] [true,true] 1 yr (B:=(Bool×(List (ByteArray×Bool)))) (fun b=>((b.1,()),(((),()),b.2,()))) (fun a=>s8 a.1.1 a.1.2.1 a.2.2.1))
theorem wq:MdlOK Try.prog 96 rf:=g9 Try.func96 rfl qj9 (.two .z (.two (.d [0,0,0,6,15,31] [] []) .z)) s0
def yu:Shp:=⟨[qc3],[qs8,qnp,qpz]⟩
abbrev qkf:Ctx ((Bool×(List (ByteArray×Bool)))):=⟨24,tt,false,false,[true,true,true],ge [(96,rf)],gv [],bq 24 tt [true,true,true] [.tmp 6] yu (fun x=>(x.1.1,(pe3 x)))⟩
theorem qke:CtxM Try.prog qkf:=ic fits mixed (mC wq m0)
abbrev qaf:Mdl:=(au (.cons (.d false ag.ty) (.cons (.rp false az.ty) (.cons (.rp false .str) (.cons (.ptr 0) (.cons (.rp false ag.ty) .nil))))) [qs8,qnp,qpz] [true,true,true] 1 yu (B:=(Bool×(List (ByteArray×Bool)))) (fun b=>((b.1,()),((((),()),()),((),()),b.2,()))) (fun a=>qbl a.1.1 a.1.2.1 a.1.2.2.1 (pe4 a.1) (pe3 a)))
theorem qhg:MdlOK Try.prog 107 qaf:=g9 Try.func107 rfl qke (.two .z (.two (.d [0,1,0,4,15,31,63,0,255,511,1023,1023,3071,1023,9215,32767,65535,131071] [15,16,17] []) .z)) s0
def dp:Shp:=⟨[q2y],[qs8,qnp,qpz]⟩
abbrev d8:Ctx ((Int×(List (ByteArray×Bool)))):=⟨19,tt,false,false,[true,true,true],ge [(107,qaf)],gv [ao _ 19 [true,true,true] j6 (C:=((List ag)×az×ByteArray×ag×Int)) (S:=(Int×(List (ByteArray×Bool)))) (fun x=>((x.1.1,x.1.2.1.1,x.1.2.1.2.1,(pe3 x.1.2.1),x.1.2.2.1),((pe3 x.1),(pe3 x)))) j5 (CE:=Unit) (E:=(List (ByteArray×Bool))) (fun c e=>((()),((((),()),()),((),()),e,()))) (fun c=>()) (fun{R} c a nx dn rt=>dj c.1 c.2.1 c.2.2.1 (pe3 c) (pf4 c) a.1 a.2 nx dn rt)],bq 19 tt [true,true,true] [.tmp 4] dp (fun x=>(x.1.1,(pe3 x)))⟩
theorem dz:CtxM Try.prog d8:=ic fits mixed (mC qhg m0)
theorem k6:aw Try.prog d8 0 (lc 0 Try.f118 37):=lp rfl dz .z s0 (fun c a=>((c.1,(c.2.1,c.2.2.1,(),(pe3 c),()),(pf4 c),a.1,()),((((),()),()),((),()),a.2,()))) (fun y=>((),(pe3 y)))
abbrev d7:Mdl:=(au (.cons (.d false (.slice ag.ty)) (.cons (.fn 107 (.cons (.rp false az.ty) (.cons (.rp false .str) (.cons (.ptr 0) (.cons (.rp false ag.ty) .nil))))) .nil)) [qs8,qnp,qpz] [true,true,true] 1 dp (B:=(Int×(List (ByteArray×Bool)))) (fun b=>((b.1,()),((((),()),()),((),()),b.2,()))) (fun a=>ea a.1.1 a.1.2.1.1 a.1.2.1.2.1 (pe3 a.1.2.1) (pe3 a)))
theorem j7:MdlOK Try.prog 118 d7:=g9 Try.func118 rfl dz (.two .z (.two (.two .z (.s 0)) .z)) (sC k6 s0)
def cw:Shp:=⟨[qc3],[qs8,qnp,qpz]⟩
abbrev jr:Ctx ((Bool×(List (ByteArray×Bool)))):=⟨9,tt,false,false,[true,true,true],ge [(118,d7)],gv [],bq 9 tt [true,true,true] [.tmp 4] cw (fun x=>(x.1.1,(pe3 x)))⟩
theorem jq:CtxM Try.prog jr:=ic fits mixed (mC j7 m0)
abbrev db:Mdl:=(au (.cons (.d false (.slice ag.ty)) (.cons (.fn 107 (.cons (.rp false az.ty) (.cons (.rp false .str) (.cons (.ptr 0) (.cons (.rp false ag.ty) .nil))))) .nil)) [qs8,qnp,qpz] [true,true,true] 1 cw (B:=(Bool×(List (ByteArray×Bool)))) (fun b=>((b.1,()),((((),()),()),((),()),b.2,()))) (fun a=>bz a.1.1 a.1.2.1.1 a.1.2.1.2.1 (pe3 a.1.2.1) (pe3 a)))
theorem iv:MdlOK Try.prog 106 db:=g9 Try.func106 rfl jq .z s0
def qbo:Shp:=⟨[qc3],[qxw,qpz]⟩
abbrev uw:Ctx ((Bool×(List (ByteArray×Bool)))):=⟨85,tt,false,false,[true,true],ge [(105,qfv),(19,dg),(94,pg),(103,u5),(96,rf),(106,db)],gv [ao _ 85 [true,true] qkm (C:=(qL1×(List ag)×(List ag)×Int×Int×(List af)×Int×Int×Int×(List af)×Int×Int)) (S:=(Int×(List (ByteArray×Bool)))) (fun x=>((x.1.1,(pe4 x.1),(pe5 x.1),(pe6 x.1),(pe3 x).1,(pe3 x).2.1,(pe3 x).2.2.1,(pe3 (pe3 x)),(pe4 x).1,(pe4 x).2.1,(pe4 x).2.2.1,(pe3 (pe4 x))),((pe7 x.1),x.2.2.1))) qkl (CE:=Unit) (E:=(List (ByteArray×Bool))) (fun c e=>((()),(((),()),e,()))) (fun c=>()) (fun{R} c a nx dn rt=>qai c.1 c.2.1 c.2.2.1 (pe3 c) (pe4 c) (pe5 c) (pe6 c) (pe7 c) (pe8 c) (pe9 c) (pe10 c) (pf11 c) a.1 a.2 nx dn rt),qba _ 85 [true,true] qko (A:=(qL1×qL1×(List (ByteArray×Bool))×Int×(List af)×Int×Int×Int×(List af)×Int×Int)) (fun x=>(x.1.1,x.1.2.1,x.2.2.1,(pe3 x).1,(pe3 x).2.1,(pe3 x).2.2.1,(pe3 (pe3 x)),(pe4 x).1,(pe4 x).2.1,(pe4 x).2.2.1,(pe3 (pe4 x)))) qkn (CE:=Unit) (E:=Unit) (fun c e=>((()),(()))) (fun c=>()) (fun{R} c dn rt=>qaj c.1 c.2.1 c.2.2.1 (pe3 c) (pe4 c) (pe5 c) (pe6 c) (pe7 c) (pe8 c) (pe9 c) (pf10 c) dn rt)],bq 85 tt [true,true] [.tmp 10] qbo (fun x=>(x.1.1,x.2.2.1))⟩
theorem uv:CtxM Try.prog uw:=ic fits mixed (mC qiq (mC dl (mC qf (mC xj (mC wq (mC iv m0))))))
theorem qme:aw Try.prog uw 0 (lc 0 Try.f84 4863):=lp rfl uv .z s0 (fun c a=>((c.1,(),(),(),c.2.1,c.2.2.1,(pe3 c),a.1,()),(((),()),a.2,((pe4 c),(pe5 c),(pe6 c),(pe7 c),()),((pe8 c),(pe9 c),(pe10 c),(pf11 c),()),(((),()),()),()))) (fun y=>((),y.2.2.1))
theorem qmf:aw Try.prog uw 1 (jc Try.f84 31):=jn rfl uv (.two .z (.two .z (.two .z (.two .z (.two (.two .z (.s 0)) .z))))) (sC qme s0) (fun c=>((c.1,c.2.1,(),(),(),()),(((),()),c.2.2.1,((pe3 c),(pe4 c),(pe5 c),(pe6 c),()),((pe7 c),(pe8 c),(pe9 c),(pf10 c),()),(((),()),()),()))) (fun y=>((),()))
abbrev qcn:Mdl:=(au (.cons (.d false az.ty) (.cons (.d false az.ty) (.cons (.d false qT1) (.cons (.d false qT1) (.cons (.fn 96 (.cons (.ptr 0) .nil)) .nil))))) [qxw,qpz] [true,true] 1 qbo (B:=(Bool×(List (ByteArray×Bool)))) (fun b=>((b.1,()),(((),()),b.2,()))) (fun a=>qd0 a.1.1 a.1.2.1 a.1.2.2.1 (pe3 a.1) a.2.2.1))
theorem qkp:MdlOK Try.prog 84 qcn:=g9 Try.func84 rfl uv (.two .z (.two .z (.two .z (.two .z (.s 1))))) (sC qmf s0)
def t7:Shp:=⟨[qc3],[qs8,qnp,qpz]⟩
abbrev qft:Ctx ((Bool×(List (ByteArray×Bool)))):=⟨21,tt,false,false,[true,true,true],ge [(84,qcn),(81,oq)],gv [],bq 21 tt [true,true,true] [.tmp 6] t7 (fun x=>(x.1.1,(pe3 x)))⟩
theorem qfs:CtxM Try.prog qft:=ic fits mixed (mC qkp (mC oe m0))
abbrev nv:Mdl:=(au (.cons (.d false ae.ty) (.cons (.rp false az.ty) (.cons (.rp false az.ty) (.cons (.ptr 0) (.cons (.ptr 1) .nil))))) [qs8,qnp,qpz] [true,true,true] 1 t7 (B:=(Bool×(List (ByteArray×Bool)))) (fun b=>((b.1,()),((((),()),()),((),()),b.2,()))) (fun a=>ov a.1.1 a.1.2.1 a.1.2.2.1 (pe3 a)))
theorem ry:MdlOK Try.prog 98 nv:=g9 Try.func98 rfl qfs (.two .z (.two .z (.two (.d [0,0,2,0,8,30,63] [6] []) .z))) s0
def jw:Shp:=⟨[q2y],[qs8,qnp,qpz]⟩
abbrev ks:Ctx ((Int×(List (ByteArray×Bool)))):=⟨19,tt,false,false,[true,true,true],ge [(98,nv)],gv [ao _ 19 [true,true,true] qu (C:=((List ae)×az×az×Int)) (S:=(Int×(List (ByteArray×Bool)))) (fun x=>((x.1.1,x.1.2.1.1,x.1.2.1.2.1,x.1.2.2.1),((pe3 x.1),(pe3 x)))) qt (CE:=Unit) (E:=(List (ByteArray×Bool))) (fun c e=>((()),((((),()),()),((),()),e,()))) (fun c=>()) (fun{R} c a nx dn rt=>je c.1 c.2.1 c.2.2.1 c.2.2.2 a.1 a.2 nx dn rt)],bq 19 tt [true,true,true] [.tmp 4] jw (fun x=>(x.1.1,(pe3 x)))⟩
theorem ko:CtxM Try.prog ks:=ic fits mixed (mC ry m0)
theorem rl:aw Try.prog ks 0 (lc 0 Try.f73 37):=lp rfl ko .z s0 (fun c a=>((c.1,(c.2.1,c.2.2.1,(),(),()),c.2.2.2,a.1,()),((((),()),()),((),()),a.2,()))) (fun y=>((),(pe3 y)))
abbrev kq:Mdl:=(au (.cons (.d false (.slice ae.ty)) (.cons (.fn 98 (.cons (.rp false az.ty) (.cons (.rp false az.ty) (.cons (.ptr 0) (.cons (.ptr 1) .nil))))) .nil)) [qs8,qnp,qpz] [true,true,true] 1 jw (B:=(Int×(List (ByteArray×Bool)))) (fun b=>((b.1,()),((((),()),()),((),()),b.2,()))) (fun a=>li a.1.1 a.1.2.1.1 a.1.2.1.2.1 (pe3 a)))
theorem qv:MdlOK Try.prog 73 kq:=g9 Try.func73 rfl ko (.two .z (.two (.two .z (.s 0)) .z)) (sC rl s0)
def jb:Shp:=⟨[jjb],[qsz,jb2,jdu,qpz]⟩
abbrev ju:Ctx (((List ae)×(List (ByteArray×Bool)))):=⟨42,tt,false,false,[false,true,true,true],ge [(73,kq),(98,nv)],gv [ao _ 42 [false,true,true,true] pq (C:=(az×az)) (S:=(Int×Int×(List ae)×(List (ByteArray×Bool)))) (fun x=>((x.1.2.1.1,x.1.2.1.2.1),(x.1.2.2.1,(pe3 x.1),x.2.1,(pe4 x)))) pp (CE:=Unit) (E:=(Int×(List ae)×(List (ByteArray×Bool)))) (fun c e=>(((),e.1,()),(e.2.1,(((),()),()),((),()),e.2.2,()))) (fun c=>()) (fun{R} c a nx dn rt=>ie c.1 c.2 a.1 a.2.1 a.2.2.1 a.2.2.2 nx dn rt)],bq 42 tt [false,true,true,true] [.tmp 4] jb (fun x=>(x.2.1,(pe4 x)))⟩
theorem js:CtxM Try.prog ju:=ic fits mixed (mC qv (mC ry m0))
theorem qp:aw Try.prog ju 0 (lc 0 Try.f97 151):=lp rfl js .z s0 (fun c a=>(((),(c.1,c.2,(),(),()),a.1,a.2.1,()),(a.2.2.1,(((),()),()),((),()),a.2.2.2,()))) (fun y=>((),(y.1.2.1,y.2.1,(pe4 y))))
abbrev jt:Mdl:=(au (.cons (.own 0) (.cons (.fn 98 (.cons (.rp false az.ty) (.cons (.rp false az.ty) (.cons (.ptr 1) (.cons (.ptr 2) .nil))))) .nil)) [qsz,jb2,jdu,qpz] [false,true,true,true] 1 jb (B:=((List ae)×(List (ByteArray×Bool)))) (fun b=>(((),()),(b.1,(((),()),()),((),()),b.2,()))) (fun a=>kg a.1.2.1.1 a.1.2.1.2.1 a.2.1 (pe4 a)))
theorem pr:MdlOK Try.prog 97 jt:=g9 Try.func97 rfl js (.two .z (.two .z (.two .z (.two (.two .z (.s 0)) .z)))) (sC qp s0)
def qbi:Shp:=⟨[(0, .own 2)],[qjk,qjk,qsz]⟩
abbrev ox:Ctx ((qL2×qL2×(List ae))):=⟨55,tt,false,false,[true,true],ge [(81,oq),(97,jt)],gv [ao _ 55 [true,true] qj4 (C:=(qL1×Int×Int×Int×qL2×qL2×Int×(List af)×Int×Int×Int×(List af)×Int×Int)) (S:=(Int×(List ae)×(List (ByteArray×Bool)))) (fun x=>(((pe5 x.1),(pe7 x.1),(pe8 x.1),(pe10 x.1),x.2.1,x.2.2.1,(pe3 x).1,(pe3 x).2.1,(pe3 x).2.2.1,(pe3 (pe3 x)),(pe4 x).1,(pe4 x).2.1,(pe4 x).2.2.1,(pe3 (pe4 x))),((pe11 x.1),(pe5 x),(pe7 x)))) qj3 (CE:=(Int×Int×qL2×qL2×Int×(List af)×Int×Int×Int×(List af)×Int×Int)) (E:=((List ae)×(List (ByteArray×Bool)))) (fun c e=>(((),(),(),(),(),(),c.1,c.2.1,()),(c.2.2.1,(pe3 c),((pe4 c),(pe5 c),(pe6 c),(pe7 c),()),((pe8 c),(pe9 c),(pe10 c),(pf11 c),()),e.1,((),()),e.2,()))) (fun c=>(c.2.1,c.2.2.1,(pe4 c),(pe5 c),(pe6 c),(pe7 c),(pe8 c),(pe9 c),(pe10 c),(pe11 c),(pe12 c),(pf13 c))) (fun{R} c a nx dn rt=>qab c.1 c.2.1 c.2.2.1 (pe3 c) (pe4 c) (pe5 c) (pe6 c) (pe7 c) (pe8 c) (pe9 c) (pe10 c) (pe11 c) (pe12 c) (pf13 c) a.1 a.2.1 a.2.2 nx dn rt),ao _ 55 [true,true] qj6 (C:=(Int×qL2×qL2×Int×(List af)×Int×Int×Int×(List af)×Int×Int)) (S:=(Int×(List ae)×(List (ByteArray×Bool)))) (fun x=>(((pe6 x.1),x.2.1,x.2.2.1,(pe3 x).1,(pe3 x).2.1,(pe3 x).2.2.1,(pe3 (pe3 x)),(pe4 x).1,(pe4 x).2.1,(pe4 x).2.2.1,(pe3 (pe4 x))),((pe7 x.1),(pe5 x),(pe7 x)))) qj5 (CE:=(qL2×qL2×Int×(List af)×Int×Int×Int×(List af)×Int×Int)) (E:=((List ae)×(List (ByteArray×Bool)))) (fun c e=>(((),(),(),(),()),(c.1,c.2.1,(c.2.2.1,(pe3 c),(pe4 c),(pe5 c),()),((pe6 c),(pe7 c),(pe8 c),(pf9 c),()),e.1,((),()),e.2,()))) (fun c=>(c.2.1,c.2.2.1,(pe3 c),(pe4 c),(pe5 c),(pe6 c),(pe7 c),(pe8 c),(pe9 c),(pf10 c))) (fun{R} c a nx dn rt=>qac c.1 c.2.1 c.2.2.1 (pe3 c) (pe4 c) (pe5 c) (pe6 c) (pe7 c) (pe8 c) (pe9 c) (pf10 c) a.1 a.2.1 a.2.2 nx dn rt),ao _ 55 [true,true] qj8 (C:=(qL2×qL2×Int×(List af)×Int×Int×Int×(List af)×Int×Int)) (S:=(Bool×(List ae)×(List (ByteArray×Bool)))) (fun x=>((x.2.1,x.2.2.1,(pe3 x).1,(pe3 x).2.1,(pe3 x).2.2.1,(pe3 (pe3 x)),(pe4 x).1,(pe4 x).2.1,(pe4 x).2.2.1,(pe3 (pe4 x))),((pe5 x.1),(pe5 x),(pe8 x)))) qj7 (CE:=(qL2×qL2)) (E:=(List ae)) (fun c e=>(((),()),(c.1,c.2,e,()))) (fun c=>(c.1,c.2.1)) (fun{R} c a nx dn rt=>qad c.1 c.2.1 c.2.2.1 (pe3 c) (pe4 c) (pe5 c) (pe6 c) (pe7 c) (pe8 c) (pf9 c) a.1 a.2.1 a.2.2 nx dn rt)],bq 55 tt [true,true] [.tmp 8] qbi (fun x=>(x.2.1,x.2.2.1,(pe3 x)))⟩
theorem ow:CtxM Try.prog ox:=ic fits mixed (mC oe (mC pr m0))
theorem ql7:aw Try.prog ox 0 (lc 2 Try.f68 39319):=lp rfl ow (.two .z (.two .z (.two (.one (.two .z (.two .z (.d [0,0,0,6,15] [4] [])))) .z))) s0 (fun c a=>(((),(),(),(),(),c.1,(),c.2.1,c.2.2.1,(),(pe3 c),a.1,()),((pe4 c),(pe5 c),((pe6 c),(pe7 c),(pe8 c),(pe9 c),()),((pe10 c),(pe11 c),(pe12 c),(pf13 c),()),a.2.1,((),()),a.2.2,()))) (fun y=>(((pe6 y.1),(pe7 y.1),y.2.1,y.2.2.1,(pe3 y).1,(pe3 y).2.1,(pe3 y).2.2.1,(pe3 (pe3 y)),(pe4 y).1,(pe4 y).2.1,(pe4 y).2.2.1,(pe3 (pe4 y))),((pe5 y),(pe7 y))))
theorem ql9:aw Try.prog ox 2 (lc 4 Try.f68 607):=lp rfl ow .z s0 (fun c a=>(((),(),(),(),(),a.1,()),(c.1,c.2.1,(c.2.2.1,(pe3 c),(pe4 c),(pe5 c),()),((pe6 c),(pe7 c),(pe8 c),(pf9 c),()),a.2.1,((),()),(((),()),()),a.2.2,()))) (fun y=>((y.2.1,y.2.2.1),(pe3 y)))
theorem ql8:aw Try.prog ox 1 (lc 0 Try.f68 151):=lp rfl ow (.two .z (.two .z (.two (.one (.two .z (.two .z (.s 0)))) .z))) (sC ql7 s0) (fun c a=>(((),(),(),(),(),(),c.1,a.1,()),(c.2.1,c.2.2.1,((pe3 c),(pe4 c),(pe5 c),(pe6 c),()),((pe7 c),(pe8 c),(pe9 c),(pf10 c),()),a.2.1,((),()),a.2.2,()))) (fun y=>((y.2.1,y.2.2.1,(pe3 y).1,(pe3 y).2.1,(pe3 y).2.2.1,(pe3 (pe3 y)),(pe4 y).1,(pe4 y).2.1,(pe4 y).2.2.1,(pe3 (pe4 y))),((pe5 y),(pe7 y))))
abbrev qck:Mdl:=(au (.cons (.d false az.ty) (.cons (.d false az.ty) (.cons (.own 0) (.cons (.own 1) .nil)))) [qjk,qjk] [true,true] 1 qbi (B:=(qL2×qL2×(List ae))) (fun b=>(((),()),(b.1,b.2.1,b.2.2,()))) (fun a=>qdy a.1.1 a.1.2.1 a.2.1 a.2.2.1))
theorem qkb:MdlOK Try.prog 68 qck:=g9 Try.func68 rfl ow (.two .z (.two .z (.two .z (.two (.two .z (.s 1)) (.two .z (.two (.two .z (.s 2)) .z)))))) (sC ql8 (sC ql9 s0))
def qdw:Shp:=⟨[qc3],[]⟩
abbrev qtl:Ctx (Bool):=⟨16,tt,false,false,[],ge [(19,dg)],gv [],bq 16 tt [] [.tmp 4] qdw (fun x=>x.1.1)⟩
theorem qtk:CtxM Try.prog qtl:=ic fits mixed (mC dl m0)
abbrev qgk:Mdl:=(au (.cons (.d false ae.ty) (.cons (.rp false qT1) (.cons (.rp false ab.ty) .nil))) [] [] 1 qdw (B:=Bool) (fun b=>((b,()),(()))) (fun a=>qh7 a.1.1 a.1.2.1 a.1.2.2.1))
theorem qn2:MdlOK Try.prog 69 qgk:=g9 Try.func69 rfl qtk .z s0
def lu:Shp:=⟨[q2y],[]⟩
abbrev mg:Ctx (Int):=⟨19,tt,false,false,[],ge [(69,qgk)],gv [ao _ 19 [] tm (C:=((List ae)×qL1×ab×Int)) (S:=Int) (fun x=>((x.1.1,x.1.2.1.1,x.1.2.1.2.1,x.1.2.2.1),(pe3 x.1))) tl (CE:=Unit) (E:=Unit) (fun c e=>((()),(()))) (fun c=>()) (fun{R} c a nx dn rt=>lf c.1 c.2.1 c.2.2.1 c.2.2.2 a nx dn rt)],bq 19 tt [] [.tmp 4] lu (fun x=>x.1.1)⟩
theorem me:CtxM Try.prog mg:=ic fits mixed (mC qn2 m0)
theorem ui:aw Try.prog mg 0 (lc 0 Try.f73 37):=lp rfl me .z s0 (fun c a=>((c.1,(c.2.1,c.2.2.1,()),c.2.2.2,a,()),(()))) (fun y=>((),()))
abbrev mf:Mdl:=(au (.cons (.d false (.slice ae.ty)) (.cons (.fn 69 (.cons (.rp false qT1) (.cons (.rp false ab.ty) .nil))) .nil)) [] [] 1 lu (B:=Int) (fun b=>((b,()),(()))) (fun a=>mu a.1.1 a.1.2.1.1 a.1.2.1.2.1))
theorem tn:MdlOK Try.prog 73 mf:=g9 Try.func73 rfl me (.two .z (.two (.two .z (.s 0)) .z)) (sC ui s0)
def jl:Shp:=⟨[qc3],[]⟩
abbrev sk:Ctx (Bool):=⟨9,tt,false,false,[],ge [(73,mf)],gv [],bq 9 tt [] [.tmp 4] jl (fun x=>x.1.1)⟩
theorem sj:CtxM Try.prog sk:=ic fits mixed (mC tn m0)
abbrev kd:Mdl:=(au (.cons (.d false (.slice ae.ty)) (.cons (.fn 69 (.cons (.rp false qT1) (.cons (.rp false ab.ty) .nil))) .nil)) [] [] 1 jl (B:=Bool) (fun b=>((b,()),(()))) (fun a=>la a.1.1 a.1.2.1.1 a.1.2.1.2.1))
theorem qm:MdlOK Try.prog 36 kd:=g9 Try.func36 rfl sj .z s0
def qh6:Shp:=⟨[(0, .d true fu.ty),jbz],[]⟩
abbrev x4:Ctx ((fu×Int)):=⟨138,tt,false,true,[],ge [(58,qbh),(59,ta),(65,cn),(67,qie),(68,qck),(36,kd),(50,gf)],gv [ao _ 138 [] qtd (C:=(Int×(List ab)×(List ab)×Int×Int×(List af)×Int×Int×Int×(List af)×Int×Int×qL1×qL1×(List ae)×qL1)) (S:=(Int×qL2)) (fun x=>((x.1.1,(pe5 x.1),(pe7 x.1),(pe8 x.1),x.2.1.1,x.2.1.2.1,x.2.1.2.2.1,(pe3 x.2.1),x.2.2.1.1,x.2.2.1.2.1,x.2.2.1.2.2.1,(pe3 x.2.2.1),(pe3 x).1,(pe3 x).2.1,(pe3 x).2.2.1,(pe4 x).1),((pe9 x.1),(pe5 x)))) qtc (CE:=(Int×(List ab)×Int×(List af)×Int×Int×Int×(List af)×Int×Int×qL1×qL1×(List ae)×qL1)) (E:=qL2) (fun c e=>((c.1,(),(),(),(),c.2.1,(),()),((c.2.2.1,(pe3 c),(pe4 c),(pe5 c),()),((pe6 c),(pe7 c),(pe8 c),(pe9 c),()),((pe10 c),(pe11 c),(pe12 c),()),((pf13 c),()),e,()))) (fun c=>(c.1,c.2.1,(pe4 c),(pe5 c),(pe6 c),(pe7 c),(pe8 c),(pe9 c),(pe10 c),(pe11 c),(pe12 c),(pe13 c),(pe14 c),(pf15 c))) (fun{R} c a nx dn rt=>qgh c.1 c.2.1 c.2.2.1 (pe3 c) (pe4 c) (pe5 c) (pe6 c) (pe7 c) (pe8 c) (pe9 c) (pe10 c) (pe11 c) (pe12 c) (pe13 c) (pe14 c) (pf15 c) a.1 a.2 nx dn rt),ao _ 138 [] qtf (C:=((List ae)×Int×qL1×qL1×(List ae)×qL1×qL1)) (S:=(Int×(List ae))) (fun x=>((x.1.2.2.1,(pe3 x.1),x.2.1.1,x.2.1.2.1,x.2.1.2.2.1,x.2.2.1.1,x.2.2.1.2.1),((pe4 x.1),(pe3 x)))) qte (CE:=(qL1×qL1×(List ae)×qL1×qL1)) (E:=(List ae)) (fun c e=>(((),(),()),((c.1,c.2.1,c.2.2.1,()),((pe3 c),(pf4 c),(),()),e,()))) (fun c=>(c.2.2.1,(pe3 c),(pe4 c),(pe5 c),(pf6 c))) (fun{R} c a nx dn rt=>qgi c.1 c.2.1 c.2.2.1 (pe3 c) (pe4 c) (pe5 c) (pf6 c) a.1 a.2 nx dn rt),ao _ 138 [] qth (C:=((List ae)×(List ab)×Int×qL1×qL1×(List ae)×qL1)) (S:=Int) (fun x=>((x.1.2.2.1,(pe3 x.1),(pe4 x.1),x.2.1.1,x.2.1.2.1,x.2.1.2.2.1,x.2.2.1.1),(pe5 x.1))) qtg (CE:=(qL1×qL1×(List ae))) (E:=Unit) (fun c e=>(((),()),((c.1,c.2.1,c.2.2,()),()))) (fun c=>((pe3 c),(pe4 c),(pe5 c))) (fun{R} c a nx dn rt=>qgj c.1 c.2.1 c.2.2.1 (pe3 c) (pe4 c) (pe5 c) (pf6 c) a nx dn rt)],bq 138 tt [] [.cell 8 28, .tmp 9] qh6 (fun x=>(x.1.1,x.1.2.1))⟩
theorem x3:CtxM Try.prog x4:=ic fits mixed (mC qdx (mC yv (mC gu (mC qqn (mC qkb (mC qm (mC ja m0)))))))
theorem qv1:aw Try.prog x4 1 (lc 4 Try.f31 313733119):=lp rfl x3 (.two .z (.two .z (.two (.one (.two .z (.d [0,1,0,4,12,0,32,124,252,508,1023,2047,4095] [10,12] []))) .z))) s0 (fun c a=>(((),(),c.1,c.2.1,a.1,()),((c.2.2.1,(pe3 c),(pe4 c),()),((pe5 c),(pf6 c),(),()),a.2,()))) (fun y=>((y.2.1.1,y.2.1.2.1,y.2.1.2.2.1,y.2.2.1.1,y.2.2.1.2.1),(pe3 y)))
theorem qv2:aw Try.prog x4 2 (lc 2 Try.f31 77823):=lp rfl x3 (.two .z (.two .z (.two (.one (.two .z (.two .z (.two (.two (.d [0,1,3,0,8,31,0,127] [7] []) (.two (.two .z (.s 1)) .z)) .z)))) .z))) (sC qv1 s0) (fun c a=>(((),(),c.1,c.2.1,c.2.2.1,a,()),(((pe3 c),(pe4 c),(pe5 c),()),((pf6 c),()),()))) (fun y=>((y.2.1.1,y.2.1.2.1,y.2.1.2.2.1),()))
theorem qv0:aw Try.prog x4 0 (lc 0 Try.f31 2431):=lp rfl x3 .z s0 (fun c a=>((c.1,(),(),(),(),c.2.1,(),c.2.2.1,(pe3 c),a.1,()),(((pe4 c),(pe5 c),(pe6 c),(pe7 c),()),((pe8 c),(pe9 c),(pe10 c),(pe11 c),()),((pe12 c),(pe13 c),(pe14 c),()),((pf15 c),()),a.2,()))) (fun y=>((y.1.1,(pe5 y.1),y.2.1.1,y.2.1.2.1,y.2.1.2.2.1,(pe3 y.2.1),y.2.2.1.1,y.2.2.1.2.1,y.2.2.1.2.2.1,(pe3 y.2.2.1),(pe3 y).1,(pe3 y).2.1,(pe3 y).2.2.1,(pe4 y).1),(pe5 y)))
abbrev qk2:Mdl:=(au (.cons (.d false az.ty) (.cons (.d false az.ty) (.cons (.d false qT1) (.cons (.d false qT0) .nil)))) [] [] 2 qh6 (B:=(fu×Int)) (fun b=>((b.1,b.2,()),(()))) (fun a=>qfr a.1.1 a.1.2.1 a.1.2.2.1 (pe3 a.1)))
theorem qtm:MdlOK Try.prog 31 qk2:=g9 Try.func31 rfl x3 (.two .z (.two .z (.two .z (.two .z (.two .z (.two .z (.two .z (.two (.two .z (.s 0)) (.two .z (.two .z (.two .z (.two .z (.two (.two .z (.s 2)) .z))))))))))))) (sC qv0 (sC qv2 s0))
def qco:Shp:=⟨[qc3],[]⟩
abbrev qqe:Ctx (Bool):=⟨15,tt,false,false,[],ge [(103,u5)],gv [],bq 15 tt [] [.tmp 4] qco (fun x=>x.1.1)⟩
theorem qqd:CtxM Try.prog qqe:=ic fits mixed (mC xj m0)
abbrev qd1:Mdl:=(au (.cons (.d false az.ty) (.cons (.d false qT1) .nil)) [] [] 1 qco (B:=Bool) (fun b=>((b,()),(()))) (fun a=>zi a.1.1 a.1.2.1))
theorem qmg:MdlOK Try.prog 78 qd1:=g9 Try.func78 rfl qqd .z s0
def qcr:Shp:=⟨[qc3],[]⟩
abbrev qqr:Ctx (Bool):=⟨17,tt,false,false,[],ge [(78,qd1)],gv [],bq 17 tt [] [.tmp 4] qcr (fun x=>x.1.1)⟩
theorem qqq:CtxM Try.prog qqr:=ic fits mixed (mC qmg m0)
abbrev qd8:Mdl:=(au (.cons (.d false ae.ty) (.cons (.rp false az.ty) (.cons (.rp false az.ty) .nil))) [] [] 1 qcr (B:=Bool) (fun b=>((b,()),(()))) (fun a=>qgr a.1.1 a.1.2.1 a.1.2.2.1))
theorem qmi:MdlOK Try.prog 77 qd8:=g9 Try.func77 rfl qqq .z s0
def lw:Shp:=⟨[q2y],[]⟩
abbrev mj:Ctx (Int):=⟨19,tt,false,false,[],ge [(77,qd8)],gv [ao _ 19 [] tq (C:=((List ae)×az×az×Int)) (S:=Int) (fun x=>((x.1.1,x.1.2.1.1,x.1.2.1.2.1,x.1.2.2.1),(pe3 x.1))) tp (CE:=Unit) (E:=Unit) (fun c e=>((()),(()))) (fun c=>()) (fun{R} c a nx dn rt=>lg c.1 c.2.1 c.2.2.1 c.2.2.2 a nx dn rt)],bq 19 tt [] [.tmp 4] lw (fun x=>x.1.1)⟩
theorem mh:CtxM Try.prog mj:=ic fits mixed (mC qmi m0)
theorem uk:aw Try.prog mj 0 (lc 0 Try.f73 37):=lp rfl mh .z s0 (fun c a=>((c.1,(c.2.1,c.2.2.1,()),c.2.2.2,a,()),(()))) (fun y=>((),()))
abbrev mi:Mdl:=(au (.cons (.d false (.slice ae.ty)) (.cons (.fn 77 (.cons (.rp false az.ty) (.cons (.rp false az.ty) .nil))) .nil)) [] [] 1 lw (B:=Int) (fun b=>((b,()),(()))) (fun a=>mw a.1.1 a.1.2.1.1 a.1.2.1.2.1))
theorem tu:MdlOK Try.prog 73 mi:=g9 Try.func73 rfl mh (.two .z (.two (.two .z (.s 0)) .z)) (sC uk s0)
def jm:Shp:=⟨[qc3],[]⟩
abbrev sn:Ctx (Bool):=⟨9,tt,false,false,[],ge [(73,mi)],gv [],bq 9 tt [] [.tmp 4] jm (fun x=>x.1.1)⟩
theorem sm:CtxM Try.prog sn:=ic fits mixed (mC tu m0)
abbrev kf:Mdl:=(au (.cons (.d false (.slice ae.ty)) (.cons (.fn 77 (.cons (.rp false az.ty) (.cons (.rp false az.ty) .nil))) .nil)) [] [] 1 jm (B:=Bool) (fun b=>((b,()),(()))) (fun a=>lb a.1.1 a.1.2.1.1 a.1.2.1.2.1))
theorem qn:MdlOK Try.prog 36 kf:=g9 Try.func36 rfl sm .z s0
def qgq:Shp:=⟨[qc3],[]⟩
abbrev qv6:Ctx (Bool):=⟨11,tt,false,false,[],ge [(36,kf)],gv [],bq 11 tt [] [.tmp 6] qgq (fun x=>x.1.1)⟩
theorem qv5:CtxM Try.prog qv6:=ic fits mixed (mC qn m0)
abbrev qim:Mdl:=(au (.cons (.d false az.ty) (.cons (.d false az.ty) (.cons (.d false (.slice ae.ty)) .nil))) [] [] 1 qgq (B:=Bool) (fun b=>((b,()),(()))) (fun a=>qk3 a.1.1 a.1.2.1 a.1.2.2.1))
theorem qqs:MdlOK Try.prog 44 qim:=g9 Try.func44 rfl qv5 .z s0
def oh:Shp:=⟨[qc3],[]⟩
abbrev o9:Ctx (Bool):=⟨26,tt,false,false,[],ge [],gv [ao _ 26 [] y7 (C:=((List ByteArray)×(List ByteArray)×Int)) (S:=Int) (fun x=>((x.1.1,x.1.2.1,x.1.2.2.1),(pe3 x.1))) y6 (CE:=Unit) (E:=Unit) (fun c e=>((()),(()))) (fun c=>()) (fun{R} c a nx dn rt=>ni c.1 c.2.1 c.2.2 a nx dn rt)],bq 26 tt [] [.tmp 4] oh (fun x=>x.1.1)⟩
theorem o7:CtxM Try.prog o9:=ic fits mixed m0
theorem z6:aw Try.prog o9 0 (lc 0 Try.f46 75):=lp rfl o7 (.two .z (.two .z (.two (.one (.two .z (.two (.d [0,0,3,7,0,0,48,112,255] [] []) .z))) .z))) s0 (fun c a=>((c.1,c.2.1,c.2.2,a,()),(()))) (fun y=>((),()))
abbrev o8:Mdl:=(au (.cons (.d false (.slice .str)) (.cons (.d false (.slice .str)) .nil)) [] [] 1 oh (B:=Bool) (fun b=>((b,()),(()))) (fun a=>pt a.1.1 a.1.2.1))
theorem y8:MdlOK Try.prog 46 o8:=g9 Try.func46 rfl o7 (.two .z (.two .z (.two (.two .z (.s 0)) .z))) (sC z6 s0)
def qci:Shp:=⟨[qc3],[]⟩
abbrev qp9:Ctx (Bool):=⟨15,tt,false,false,[],ge [(19,dg)],gv [],bq 15 tt [] [.tmp 4] qci (fun x=>x.1.1)⟩
theorem qp8:CtxM Try.prog qp9:=ic fits mixed (mC dl m0)
abbrev qdu:Mdl:=(au (.cons (.d false ae.ty) (.cons (.rp false qT1) (.cons (.rp false qT1) .nil))) [] [] 1 qci (B:=Bool) (fun b=>((b,()),(()))) (fun a=>qgg a.1.1 a.1.2.1 a.1.2.2.1))
theorem ql1:MdlOK Try.prog 47 qdu:=g9 Try.func47 rfl qp8 .z s0
def ls:Shp:=⟨[q2y],[]⟩
abbrev mc:Ctx (Int):=⟨19,tt,false,false,[],ge [(47,qdu)],gv [ao _ 19 [] tj (C:=((List ae)×qL1×qL1×Int)) (S:=Int) (fun x=>((x.1.1,x.1.2.1.1,x.1.2.1.2.1,x.1.2.2.1),(pe3 x.1))) th (CE:=Unit) (E:=Unit) (fun c e=>((()),(()))) (fun c=>()) (fun{R} c a nx dn rt=>ld c.1 c.2.1 c.2.2.1 c.2.2.2 a nx dn rt)],bq 19 tt [] [.tmp 4] ls (fun x=>x.1.1)⟩
theorem l9:CtxM Try.prog mc:=ic fits mixed (mC ql1 m0)
theorem ug:aw Try.prog mc 0 (lc 0 Try.f73 37):=lp rfl l9 .z s0 (fun c a=>((c.1,(c.2.1,c.2.2.1,()),c.2.2.2,a,()),(()))) (fun y=>((),()))
abbrev ma:Mdl:=(au (.cons (.d false (.slice ae.ty)) (.cons (.fn 47 (.cons (.rp false qT1) (.cons (.rp false qT1) .nil))) .nil)) [] [] 1 ls (B:=Int) (fun b=>((b,()),(()))) (fun a=>mt a.1.1 a.1.2.1.1 a.1.2.1.2.1))
theorem tk:MdlOK Try.prog 73 ma:=g9 Try.func73 rfl l9 (.two .z (.two (.two .z (.s 0)) .z)) (sC ug s0)
def jk:Shp:=⟨[qc3],[]⟩
abbrev si:Ctx (Bool):=⟨9,tt,false,false,[],ge [(73,ma)],gv [],bq 9 tt [] [.tmp 4] jk (fun x=>x.1.1)⟩
theorem sg:CtxM Try.prog si:=ic fits mixed (mC tk m0)
abbrev kc:Mdl:=(au (.cons (.d false (.slice ae.ty)) (.cons (.fn 47 (.cons (.rp false qT1) (.cons (.rp false qT1) .nil))) .nil)) [] [] 1 jk (B:=Bool) (fun b=>((b,()),(()))) (fun a=>k9 a.1.1 a.1.2.1.1 a.1.2.1.2.1))
theorem ql:MdlOK Try.prog 36 kc:=g9 Try.func36 rfl sg .z s0
def wu:Shp:=⟨[qc3],[qxw,qpz]⟩
abbrev qii:Ctx ((Bool×(List (ByteArray×Bool)))):=⟨11,tt,false,false,[true,true],ge [(81,oq)],gv [],bq 11 tt [true,true] [.tmp 5] wu (fun x=>(x.1.1,x.2.2.1))⟩
theorem qih:CtxM Try.prog qii:=ic fits mixed (mC oe m0)
abbrev pf:Mdl:=(au (.cons (.d false qT1) (.cons (.d false qT1) (.cons (.ptr 0) .nil))) [qxw,qpz] [true,true] 1 wu (B:=(Bool×(List (ByteArray×Bool)))) (fun b=>((b.1,()),(((),()),b.2,()))) (fun a=>rh a.1.1 a.1.2.1 a.2.2.1))
theorem u3:MdlOK Try.prog 82 pf:=g9 Try.func82 rfl qih (.two .z (.two (.d [0,0,0,6,15,31] [] []) .z)) s0
def yt:Shp:=⟨[qc3],[qs7,qnp,qpz]⟩
abbrev qkd:Ctx ((Bool×(List (ByteArray×Bool)))):=⟨24,tt,false,false,[true,true,true],ge [(82,pf)],gv [],bq 24 tt [true,true,true] [.tmp 6] yt (fun x=>(x.1.1,(pe3 x)))⟩
theorem qkc:CtxM Try.prog qkd:=ic fits mixed (mC u3 m0)
abbrev qae:Mdl:=(au (.cons (.d false ag.ty) (.cons (.rp false az.ty) (.cons (.rp false .str) (.cons (.ptr 0) (.cons (.rp false ag.ty) .nil))))) [qs7,qnp,qpz] [true,true,true] 1 yt (B:=(Bool×(List (ByteArray×Bool)))) (fun b=>((b.1,()),((((),()),()),((),()),b.2,()))) (fun a=>qbk a.1.1 a.1.2.1 a.1.2.2.1 (pe4 a.1) (pe3 a)))
theorem qhf:MdlOK Try.prog 107 qae:=g9 Try.func107 rfl qkc (.two .z (.two (.d [0,1,0,4,15,31,63,0,255,511,1023,1023,3071,1023,9215,32767,65535,131071] [15,16,17] []) .z)) s0
def dm:Shp:=⟨[q2y],[qs7,qnp,qpz]⟩
abbrev dy:Ctx ((Int×(List (ByteArray×Bool)))):=⟨19,tt,false,false,[true,true,true],ge [(107,qae)],gv [ao _ 19 [true,true,true] j3 (C:=((List ag)×az×ByteArray×ag×Int)) (S:=(Int×(List (ByteArray×Bool)))) (fun x=>((x.1.1,x.1.2.1.1,x.1.2.1.2.1,(pe3 x.1.2.1),x.1.2.2.1),((pe3 x.1),(pe3 x)))) j2 (CE:=Unit) (E:=(List (ByteArray×Bool))) (fun c e=>((()),((((),()),()),((),()),e,()))) (fun c=>()) (fun{R} c a nx dn rt=>di c.1 c.2.1 c.2.2.1 (pe3 c) (pf4 c) a.1 a.2 nx dn rt)],bq 19 tt [true,true,true] [.tmp 4] dm (fun x=>(x.1.1,(pe3 x)))⟩
theorem dv:CtxM Try.prog dy:=ic fits mixed (mC qhf m0)
theorem ky:aw Try.prog dy 0 (lc 0 Try.f118 37):=lp rfl dv .z s0 (fun c a=>((c.1,(c.2.1,c.2.2.1,(),(pe3 c),()),(pf4 c),a.1,()),((((),()),()),((),()),a.2,()))) (fun y=>((),(pe3 y)))
abbrev dx:Mdl:=(au (.cons (.d false (.slice ag.ty)) (.cons (.fn 107 (.cons (.rp false az.ty) (.cons (.rp false .str) (.cons (.ptr 0) (.cons (.rp false ag.ty) .nil))))) .nil)) [qs7,qnp,qpz] [true,true,true] 1 dm (B:=(Int×(List (ByteArray×Bool)))) (fun b=>((b.1,()),((((),()),()),((),()),b.2,()))) (fun a=>d9 a.1.1 a.1.2.1.1 a.1.2.1.2.1 (pe3 a.1.2.1) (pe3 a)))
theorem j4:MdlOK Try.prog 118 dx:=g9 Try.func118 rfl dv (.two .z (.two (.two .z (.s 0)) .z)) (sC ky s0)
def cu:Shp:=⟨[qc3],[qs7,qnp,qpz]⟩
abbrev jp:Ctx ((Bool×(List (ByteArray×Bool)))):=⟨9,tt,false,false,[true,true,true],ge [(118,dx)],gv [],bq 9 tt [true,true,true] [.tmp 4] cu (fun x=>(x.1.1,(pe3 x)))⟩
theorem jo:CtxM Try.prog jp:=ic fits mixed (mC j4 m0)
abbrev da:Mdl:=(au (.cons (.d false (.slice ag.ty)) (.cons (.fn 107 (.cons (.rp false az.ty) (.cons (.rp false .str) (.cons (.ptr 0) (.cons (.rp false ag.ty) .nil))))) .nil)) [qs7,qnp,qpz] [true,true,true] 1 cu (B:=(Bool×(List (ByteArray×Bool)))) (fun b=>((b.1,()),((((),()),()),((),()),b.2,()))) (fun a=>bx a.1.1 a.1.2.1.1 a.1.2.1.2.1 (pe3 a.1.2.1) (pe3 a)))
theorem iu:MdlOK Try.prog 106 da:=g9 Try.func106 rfl jo .z s0
def qbm:Shp:=⟨[qc3],[qxw,qpz]⟩
abbrev uu:Ctx ((Bool×(List (ByteArray×Bool)))):=⟨85,tt,false,false,[true,true],ge [(105,qfv),(19,dg),(94,pg),(103,u5),(82,pf),(106,da)],gv [ao _ 85 [true,true] qkh (C:=(qL1×(List ag)×(List ag)×Int×Int×(List af)×Int×Int×Int×(List af)×Int×Int)) (S:=(Int×(List (ByteArray×Bool)))) (fun x=>((x.1.1,(pe4 x.1),(pe5 x.1),(pe6 x.1),(pe3 x).1,(pe3 x).2.1,(pe3 x).2.2.1,(pe3 (pe3 x)),(pe4 x).1,(pe4 x).2.1,(pe4 x).2.2.1,(pe3 (pe4 x))),((pe7 x.1),x.2.2.1))) qkg (CE:=Unit) (E:=(List (ByteArray×Bool))) (fun c e=>((()),(((),()),e,()))) (fun c=>()) (fun{R} c a nx dn rt=>qag c.1 c.2.1 c.2.2.1 (pe3 c) (pe4 c) (pe5 c) (pe6 c) (pe7 c) (pe8 c) (pe9 c) (pe10 c) (pf11 c) a.1 a.2 nx dn rt),qba _ 85 [true,true] qkj (A:=(qL1×qL1×(List (ByteArray×Bool))×Int×(List af)×Int×Int×Int×(List af)×Int×Int)) (fun x=>(x.1.1,x.1.2.1,x.2.2.1,(pe3 x).1,(pe3 x).2.1,(pe3 x).2.2.1,(pe3 (pe3 x)),(pe4 x).1,(pe4 x).2.1,(pe4 x).2.2.1,(pe3 (pe4 x)))) qki (CE:=Unit) (E:=Unit) (fun c e=>((()),(()))) (fun c=>()) (fun{R} c dn rt=>qah c.1 c.2.1 c.2.2.1 (pe3 c) (pe4 c) (pe5 c) (pe6 c) (pe7 c) (pe8 c) (pe9 c) (pf10 c) dn rt)],bq 85 tt [true,true] [.tmp 10] qbm (fun x=>(x.1.1,x.2.2.1))⟩
theorem ut:CtxM Try.prog uu:=ic fits mixed (mC qiq (mC dl (mC qf (mC xj (mC u3 (mC iu m0))))))
theorem qmb:aw Try.prog uu 0 (lc 0 Try.f84 4863):=lp rfl ut .z s0 (fun c a=>((c.1,(),(),(),c.2.1,c.2.2.1,(pe3 c),a.1,()),(((),()),a.2,((pe4 c),(pe5 c),(pe6 c),(pe7 c),()),((pe8 c),(pe9 c),(pe10 c),(pf11 c),()),(((),()),()),()))) (fun y=>((),y.2.2.1))
theorem qmc:aw Try.prog uu 1 (jc Try.f84 31):=jn rfl ut (.two .z (.two .z (.two .z (.two .z (.two (.two .z (.s 0)) .z))))) (sC qmb s0) (fun c=>((c.1,c.2.1,(),(),(),()),(((),()),c.2.2.1,((pe3 c),(pe4 c),(pe5 c),(pe6 c),()),((pe7 c),(pe8 c),(pe9 c),(pf10 c),()),(((),()),()),()))) (fun y=>((),()))
abbrev qcm:Mdl:=(au (.cons (.d false az.ty) (.cons (.d false az.ty) (.cons (.d false qT1) (.cons (.d false qT1) (.cons (.fn 82 (.cons (.ptr 0) .nil)) .nil))))) [qxw,qpz] [true,true] 1 qbm (B:=(Bool×(List (ByteArray×Bool)))) (fun b=>((b.1,()),(((),()),b.2,()))) (fun a=>qdz a.1.1 a.1.2.1 a.1.2.2.1 (pe3 a.1) a.2.2.1))
theorem qkk:MdlOK Try.prog 84 qcm:=g9 Try.func84 rfl ut (.two .z (.two .z (.two .z (.two .z (.s 1))))) (sC qmc s0)
def rz:Shp:=⟨[qc3],[qs7,qnp,qpz]⟩
abbrev qd7:Ctx ((Bool×(List (ByteArray×Bool)))):=⟨15,tt,false,false,[true,true,true],ge [(84,qcm)],gv [],bq 15 tt [true,true,true] [.tmp 5] rz (fun x=>(x.1.1,(pe3 x)))⟩
theorem qd6:CtxM Try.prog qd7:=ic fits mixed (mC qkk m0)
abbrev t8:Mdl:=(au (.cons (.d false ae.ty) (.cons (.rp false az.ty) (.cons (.rp false az.ty) (.cons (.ptr 0) .nil)))) [qs7,qnp,qpz] [true,true,true] 1 rz (B:=(Bool×(List (ByteArray×Bool)))) (fun b=>((b.1,()),((((),()),()),((),()),b.2,()))) (fun a=>u4 a.1.1 a.1.2.1 a.1.2.2.1 (pe3 a)))
theorem qb9:MdlOK Try.prog 83 t8:=g9 Try.func83 rfl qd6 .z s0
def jv:Shp:=⟨[q2y],[qs7,qnp,qpz]⟩
abbrev kl:Ctx ((Int×(List (ByteArray×Bool)))):=⟨19,tt,false,false,[true,true,true],ge [(83,t8)],gv [ao _ 19 [true,true,true] qr (C:=((List ae)×az×az×Int)) (S:=(Int×(List (ByteArray×Bool)))) (fun x=>((x.1.1,x.1.2.1.1,x.1.2.1.2.1,x.1.2.2.1),((pe3 x.1),(pe3 x)))) qq (CE:=Unit) (E:=(List (ByteArray×Bool))) (fun c e=>((()),((((),()),()),((),()),e,()))) (fun c=>()) (fun{R} c a nx dn rt=>jd c.1 c.2.1 c.2.2.1 c.2.2.2 a.1 a.2 nx dn rt)],bq 19 tt [true,true,true] [.tmp 4] jv (fun x=>(x.1.1,(pe3 x)))⟩
theorem kh:CtxM Try.prog kl:=ic fits mixed (mC qb9 m0)
theorem rj:aw Try.prog kl 0 (lc 0 Try.f73 37):=lp rfl kh .z s0 (fun c a=>((c.1,(c.2.1,c.2.2.1,(),()),c.2.2.2,a.1,()),((((),()),()),((),()),a.2,()))) (fun y=>((),(pe3 y)))
abbrev kj:Mdl:=(au (.cons (.d false (.slice ae.ty)) (.cons (.fn 83 (.cons (.rp false az.ty) (.cons (.rp false az.ty) (.cons (.ptr 0) .nil)))) .nil)) [qs7,qnp,qpz] [true,true,true] 1 jv (B:=(Int×(List (ByteArray×Bool)))) (fun b=>((b.1,()),((((),()),()),((),()),b.2,()))) (fun a=>lh a.1.1 a.1.2.1.1 a.1.2.1.2.1 (pe3 a)))
theorem qs:MdlOK Try.prog 73 kj:=g9 Try.func73 rfl kh (.two .z (.two (.two .z (.s 0)) .z)) (sC rj s0)
def qam:Shp:=⟨[q2y],[]⟩
abbrev qbt:Ctx (Int):=⟨29,tt,false,false,[],ge [(81,oq),(73,kj)],gv [ao _ 29 [] qig (C:=((List ae)×(List ae)×Int×Int×(List af)×Int×Int×Int×(List af)×Int×Int)) (S:=(Int×(List (ByteArray×Bool)))) (fun x=>((x.1.1,(pe4 x.1),(pe5 x.1),x.2.1.1,x.2.1.2.1,x.2.1.2.2.1,(pe3 x.2.1),x.2.2.1.1,x.2.2.1.2.1,x.2.2.1.2.2.1,(pe3 x.2.2.1)),((pe6 x.1),(pe4 x)))) qif (CE:=((List ae)×Int×(List af)×Int×Int×Int×(List af)×Int×Int)) (E:=(List (ByteArray×Bool))) (fun c e=>((c.1,(),(),(),()),((c.2.1,c.2.2.1,(pe3 c),(pe4 c),()),((pe5 c),(pe6 c),(pe7 c),(pf8 c),()),((),()),e,()))) (fun c=>(c.1,(pe3 c),(pe4 c),(pe5 c),(pe6 c),(pe7 c),(pe8 c),(pe9 c),(pf10 c))) (fun{R} c a nx dn rt=>yw c.1 c.2.1 c.2.2.1 (pe3 c) (pe4 c) (pe5 c) (pe6 c) (pe7 c) (pe8 c) (pe9 c) (pf10 c) a.1 a.2 nx dn rt)],bq 29 tt [] [.tmp 6] qam (fun x=>x.1.1)⟩
theorem qbr:CtxM Try.prog qbt:=ic fits mixed (mC oe (mC qs m0))
theorem qkt:aw Try.prog qbt 0 (lc 0 Try.f48 75):=lp rfl qbr (.two .z (.two .z (.two (.one (.two .z (.d [0,0,2,0,8,30,63] [6] []))) .z))) s0 (fun c a=>((c.1,(),(),(),c.2.1,c.2.2.1,a.1,()),(((pe3 c),(pe4 c),(pe5 c),(pe6 c),()),((pe7 c),(pe8 c),(pe9 c),(pf10 c),()),((),()),a.2,()))) (fun y=>((y.1.1,y.2.1.1,y.2.1.2.1,y.2.1.2.2.1,(pe3 y.2.1),y.2.2.1.1,y.2.2.1.2.1,y.2.2.1.2.2.1,(pe3 y.2.2.1)),(pe4 y)))
abbrev qbs:Mdl:=(au (.cons (.d false az.ty) (.cons (.d false az.ty) (.cons (.d false (.slice ae.ty)) .nil))) [] [] 1 qam (B:=Int) (fun b=>((b,()),(()))) (fun a=>qcq a.1.1 a.1.2.1 a.1.2.2.1))
theorem qij:MdlOK Try.prog 48 qbs:=g9 Try.func48 rfl qbr (.two .z (.two .z (.two (.two .z (.s 0)) .z))) (sC qkt s0)
def qgf:Shp:=⟨[qc3],[]⟩
abbrev qvw:Ctx (Bool):=⟨78,tt,false,false,[],ge [(43,qdb),(44,qim),(45,xg),(46,o8),(19,dg),(36,kc),(48,qbs)],gv [],bq 78 tt [] [.tmp 8] qgf (fun x=>x.1.1)⟩
theorem qvv:CtxM Try.prog qvw:=ic fits mixed (mC qgm (mC qqs (mC qbj (mC y8 (mC dl (mC ql (mC qij m0)))))))
abbrev qh2:Mdl:=(au (.cons (.d false az.ty) (.cons (.d false az.ty) (.cons (.d false qT1) (.cons (.d false fu.ty) .nil)))) [] [] 1 qgf (B:=Bool) (fun b=>((b,()),(()))) (fun a=>qda a.1.1 a.1.2.1 a.1.2.2.1 (pe3 a.1)))
theorem qqa:MdlOK Try.prog 13 qh2:=g9 Try.func13 rfl qvv .z s0
def qky:Shp:=⟨[qc3],[]⟩
abbrev q1b:Ctx (Bool):=⟨46,tt,false,false,[],ge [(33,qr6),(31,qk2),(13,qh2)],gv [],bq 46 tt [] [.tmp 0] qky (fun x=>x.1.1)⟩
theorem q1a:CtxM Try.prog q1b:=ic fits mixed (mC qx7 (mC qtm (mC qqa m0)))
abbrev qnu:Mdl:=(au .nil [] [] 1 qky (B:=Bool) (fun b=>((b,()),(()))) (fun a=>qhy))
theorem qvn:MdlOK Try.prog 8 qnu:=g9 Try.func8 rfl q1a .z s0
def qgc:Shp:=⟨[qc3],[]⟩
abbrev qvp:Ctx (Bool):=⟨19,tt,false,false,[],ge [],gv [],bq 19 tt [] [.tmp 2] qgc (fun x=>x.1.1)⟩
theorem qvo:CtxM Try.prog qvp:=ic fits mixed m0
abbrev qh0:Mdl:=(au (.cons (.d false af.ty) .nil) [] [] 1 qgc (B:=Bool) (fun b=>((b,()),(()))) (fun a=>xz a.1.1))
theorem qp4:MdlOK Try.prog 35 qh0:=g9 Try.func35 rfl qvo .z s0
def fx:Shp:=⟨[q2y],[]⟩
abbrev gi:Ctx (Int):=⟨19,tt,false,false,[],ge [(35,qh0)],gv [ao _ 19 [] n7 (C:=((List af)×Int)) (S:=Int) (fun x=>((x.1.1,x.1.2.2.1),(pe3 x.1))) n6 (CE:=Unit) (E:=Unit) (fun c e=>((()),(()))) (fun c=>()) (fun{R} c a nx dn rt=>b7 c.1 c.2 a nx dn rt)],bq 19 tt [] [.tmp 4] fx (fun x=>x.1.1)⟩
theorem gg:CtxM Try.prog gi:=ic fits mixed (mC qp4 m0)
theorem oi:aw Try.prog gi 0 (lc 0 Try.f72 37):=lp rfl gg .z s0 (fun c a=>((c.1,(()),c.2,a,()),(()))) (fun y=>((),()))
abbrev gh:Mdl:=(au (.cons (.d false (.slice af.ty)) (.cons (.fn 35 .nil) .nil)) [] [] 1 fx (B:=Int) (fun b=>((b,()),(()))) (fun a=>dk a.1.1))
theorem n8:MdlOK Try.prog 72 gh:=g9 Try.func72 rfl gg (.two .z (.two (.two .z (.s 0)) .z)) (sC oi s0)
def fe:Shp:=⟨[qc3],[]⟩
abbrev nh:Ctx (Bool):=⟨9,tt,false,false,[],ge [(72,gh)],gv [],bq 9 tt [] [.tmp 4] fe (fun x=>x.1.1)⟩
theorem ng:CtxM Try.prog nh:=ic fits mixed (mC n8 m0)
abbrev fk:Mdl:=(au (.cons (.d false (.slice af.ty)) (.cons (.fn 35 .nil) .nil)) [] [] 1 fe (B:=Bool) (fun b=>((b,()),(()))) (fun a=>ay a.1.1))
theorem mz:MdlOK Try.prog 34 fk:=g9 Try.func34 rfl ng .z s0
def qk0:Shp:=⟨[qc3],[]⟩
abbrev q1d:Ctx (Bool):=⟨32,tt,false,false,[],ge [(34,fk)],gv [],bq 32 tt [] [.tmp 2] qk0 (fun x=>x.1.1)⟩
theorem q1c:CtxM Try.prog q1d:=ic fits mixed (mC mz m0)
abbrev qnv:Mdl:=(au (.cons (.d false az.ty) .nil) [] [] 1 qk0 (B:=Bool) (fun b=>((b,()),(()))) (fun a=>yo a.1.1))
theorem qvq:MdlOK Try.prog 9 qnv:=g9 Try.func9 rfl q1c .z s0
def qnx:Shp:=⟨[qc3],[]⟩
abbrev q3x:Ctx (Bool):=⟨16,tt,false,false,[],ge [],gv [],bq 16 tt [] [.tmp 2] qnx (fun x=>x.1.1)⟩
theorem q3w:CtxM Try.prog q3x:=ic fits mixed m0
abbrev qr8:Mdl:=(au (.cons (.d false qT1) .nil) [] [] 1 qnx (B:=Bool) (fun b=>((b,()),(()))) (fun a=>qfo a.1.1))
theorem qx8:MdlOK Try.prog 10 qr8:=g9 Try.func10 rfl q3w .z s0
def qi0:Shp:=⟨[qc3],[]⟩
abbrev qyu:Ctx (Bool):=⟨17,tt,false,false,[],ge [],gv [],bq 17 tt [] [.tmp 2] qi0 (fun x=>x.1.1)⟩
theorem qyt:CtxM Try.prog qyu:=ic fits mixed m0
abbrev qlj:Mdl:=(au (.cons (.d false (.int .u8)) .nil) [] [] 1 qi0 (B:=Bool) (fun b=>((b,()),(()))) (fun a=>vg a.1.1))
theorem qt6:MdlOK Try.prog 99 qlj:=g9 Try.func99 rfl qyt .z s0
def qiz:Shp:=⟨[qc3],[]⟩
abbrev qli:Ctx (Bool):=⟨52,tt,false,false,[],ge [(99,qlj)],gv [ao _ 52 [] qt4 (C:=ByteArray) (S:=Int) (fun x=>(x.1.1,x.1.2.1)) qt3 (CE:=Unit) (E:=Unit) (fun c e=>((()),(()))) (fun c=>()) (fun{R} c a nx dn rt=>og c a nx dn rt)],bq 52 tt [] [.tmp 2] qiz (fun x=>x.1.1)⟩
theorem qlg:CtxM Try.prog qli:=ic fits mixed (mC qt6 m0)
theorem qwy:aw Try.prog qli 0 (lc 0 Try.f74 75):=lp rfl qlg .z s0 (fun c a=>((c,a,()),(()))) (fun y=>((),()))
abbrev qlh:Mdl:=(au (.cons (.d false .str) .nil) [] [] 1 qiz (B:=Bool) (fun b=>((b,()),(()))) (fun a=>qax a.1.1))
theorem qt5:MdlOK Try.prog 74 qlh:=g9 Try.func74 rfl qlg (.two .z (.two .z (.two (.two .z (.s 0)) .z))) (sC qwy s0)
def qjd:Shp:=⟨[qc3],[]⟩
abbrev qlp:Ctx (Bool):=⟨41,tt,false,false,[],ge [],gv [ao _ 41 [] qub (C:=(Int×qL1)) (S:=Int) (fun x=>((x.1.1,x.1.2.1),x.1.2.2.1)) qua (CE:=Unit) (E:=Unit) (fun c e=>((()),(()))) (fun c=>()) (fun{R} c a nx dn rt=>l3 c.1 c.2 a nx dn rt)],bq 41 tt [] [.tmp 4] qjd (fun x=>x.1.1)⟩
theorem qln:CtxM Try.prog qlp:=ic fits mixed m0
theorem qw9:aw Try.prog qlp 0 (lc 0 Try.f75 37):=lp rfl qln (.two .z (.two (.one (.two (.d [0,0,3,7,15,31,63,63,255,511,63,2047,4095,8191,16383,32767,65535,131071,131071,393215,1048575,2097151,131071,131071,12713983,29491199,67108863,134217727,268435455] [] []) .z)) .z)) s0 (fun c a=>((c.1,c.2,a,()),(()))) (fun y=>((),()))
abbrev qlo:Mdl:=(au (.cons (.d false qT0) (.cons (.d false qT1) .nil)) [] [] 1 qjd (B:=Bool) (fun b=>((b,()),(()))) (fun a=>nz a.1.1 a.1.2.1))
theorem quc:MdlOK Try.prog 75 qlo:=g9 Try.func75 rfl qln (.two .z (.two (.two .z (.s 0)) .z)) (sC qw9 s0)
def qlm:Shp:=⟨[qc3],[]⟩
abbrev qow:Ctx (Bool):=⟨80,tt,false,false,[],ge [(74,qlh),(75,qlo)],gv [ao _ 80 [] qw8 (C:=(Int×(List af)×Int×Int)) (S:=Int) (fun x=>((x.2.1.1,x.2.1.2.1,x.2.1.2.2.1,(pe3 x.2.1)),x.1.2.1)) qw7 (CE:=Unit) (E:=Unit) (fun c e=>((()),(()))) (fun c=>()) (fun{R} c a nx dn rt=>vk c.1 c.2.1 c.2.2.1 c.2.2.2 a nx dn rt)],bq 80 tt [] [.tmp 2] qlm (fun x=>x.1.1)⟩
theorem qov:CtxM Try.prog qow:=ic fits mixed (mC qt5 (mC quc m0))
theorem qyz:aw Try.prog qow 0 (lc 0 Try.f38 75):=lp rfl qov .z s0 (fun c a=>(((),a,()),((c.1,c.2.1,c.2.2.1,c.2.2.2,()),()))) (fun y=>((),()))
abbrev vm:Mdl:=(au (.cons (.d false az.ty) .nil) [] [] 1 qlm (B:=Bool) (fun b=>((b,()),(()))) (fun a=>pj a.1.1))
theorem vp:MdlOK Try.prog 38 vm:=g9 Try.func38 rfl qov (.two .z (.two .z (.two (.two .z (.s 0)) .z))) (sC qyz s0)
def qsn:Shp:=⟨[qc3],[]⟩
abbrev qw3:Ctx (Bool):=⟨18,tt,false,false,[],ge [],gv [ao _ 18 [] q2b (C:=(qL1×Int)) (S:=Int) (fun x=>((x.1.1,x.1.2.1),x.1.2.2.1)) q2a (CE:=Unit) (E:=Unit) (fun c e=>((()),(()))) (fun c=>()) (fun{R} c a nx dn rt=>qay c.1 c.2 a nx dn rt)],bq 18 tt [] [.tmp 4] qsn (fun x=>x.1.1)⟩
theorem qw2:CtxM Try.prog qw3:=ic fits mixed m0
theorem q4h:aw Try.prog qw3 0 (lc 0 Try.f41 37):=lp rfl qw2 .z s0 (fun c a=>((c.1,c.2,a,()),(()))) (fun y=>((),()))
abbrev qfx:Mdl:=(au (.cons (.d false qT1) (.cons (.d false qT0) .nil)) [] [] 1 qsn (B:=Bool) (fun b=>((b,()),(()))) (fun a=>ot a.1.1 a.1.2.1))
theorem qfy:MdlOK Try.prog 41 qfx:=g9 Try.func41 rfl qw2 (.two .z (.two (.two .z (.s 0)) .z)) (sC q4h s0)
def qlr:Shp:=⟨[jjb],[qpn]⟩
abbrev qa0:Ctx (qL1):=⟨72,tt,false,false,[],ge [(41,qfx)],gv [ao _ 72 [] qxb (C:=(Int×Int×Int×(List af)×Int×Int)) (S:=(Int×qL1)) (fun x=>((x.1.2.2.1,(pe3 x.1),x.2.1.1,x.2.1.2.1,x.2.1.2.2.1,(pe3 x.2.1)),((pe4 x.1),x.2.2.1))) qxa (CE:=(Int×Int×Int×(List af)×Int×Int)) (E:=qL1) (fun c e=>(((),(),c.1,c.2.1,()),((c.2.2.1,(pe3 c),(pe4 c),(pf5 c),()),e,()))) (fun c=>(c.1,c.2.1,c.2.2.1,(pe3 c),(pe4 c),(pf5 c))) (fun{R} c a nx dn rt=>pk c.1 c.2.1 c.2.2.1 (pe3 c) (pe4 c) (pf5 c) a.1 a.2 nx dn rt),ao _ 72 [] qxd (C:=(Int×Int×(List af)×Int×Int)) (S:=(Int×qL1)) (fun x=>((x.1.2.2.1,x.2.1.1,x.2.1.2.1,x.2.1.2.2.1,(pe3 x.2.1)),((pe3 x.1),x.2.2.1))) qxc (CE:=(Int×Int×(List af)×Int×Int)) (E:=qL1) (fun c e=>(((),(),c.1,()),((c.2.1,c.2.2.1,(pe3 c),(pf4 c),()),e,()))) (fun c=>(c.1,c.2.1,c.2.2.1,(pe3 c),(pf4 c))) (fun{R} c a nx dn rt=>pn c.1 c.2.1 c.2.2.1 (pe3 c) (pf4 c) a.1 a.2 nx dn rt),ao _ 72 [] qxf (C:=(Int×(List af)×Int×Int)) (S:=(Int×qL1)) (fun x=>((x.2.1.1,x.2.1.2.1,x.2.1.2.2.1,(pe3 x.2.1)),(x.1.2.2.1,x.2.2.1))) qxe (CE:=Unit) (E:=qL1) (fun c e=>(((),()),(e,()))) (fun c=>()) (fun{R} c a nx dn rt=>vq c.1 c.2.1 c.2.2.1 c.2.2.2 a.1 a.2 nx dn rt)],bq 72 tt [] [.tmp 4] qlr (fun x=>x.2.1)⟩
theorem qaz:CtxM Try.prog qa0:=ic fits mixed (mC qfy m0)
theorem qy3:aw Try.prog qa0 0 (lc 4 Try.f39 627275):=lp rfl qaz .z s0 (fun c a=>(((),(),c.1,c.2.1,a.1,()),((c.2.2.1,(pe3 c),(pe4 c),(pf5 c),()),a.2,()))) (fun y=>((y.1.2.2.1,(pe3 y.1),y.2.1.1,y.2.1.2.1,y.2.1.2.2.1,(pe3 y.2.1)),y.2.2.1))
theorem qy4:aw Try.prog qa0 1 (lc 2 Try.f39 4683):=lp rfl qaz (.two .z (.two (.one (.two (.two (.d [0,1,0,7,15,31,0,0,192,448,1023,2047] [] []) .z) (.two .z (.s 0)))) .z)) (sC qy3 s0) (fun c a=>(((),(),c.1,a.1,()),((c.2.1,c.2.2.1,(pe3 c),(pf4 c),()),a.2,()))) (fun y=>((y.1.2.2.1,y.2.1.1,y.2.1.2.1,y.2.1.2.2.1,(pe3 y.2.1)),y.2.2.1))
theorem qy5:aw Try.prog qa0 2 (lc 0 Try.f39 75):=lp rfl qaz (.two .z (.two (.one (.two .z (.s 1))) .z)) (sC qy4 s0) (fun c a=>(((),(),a.1,()),((c.1,c.2.1,c.2.2.1,c.2.2.2,()),a.2,()))) (fun y=>((),y.2.1))
abbrev qo5:Mdl:=(au (.cons (.d false az.ty) (.cons (.d false qT0) .nil)) [] [] 1 qlr (B:=qL1) (fun b=>(((),()),(b,()))) (fun a=>y3 a.1.1 a.1.2.1))
theorem qxg:MdlOK Try.prog 39 qo5:=g9 Try.func39 rfl qaz (.two .z (.two .z (.two (.two .z (.s 2)) .z))) (sC qy5 s0)
def qg5:Shp:=⟨[(0, .d true az.ty)],[]⟩
abbrev qjb:Ctx (az):=⟨42,tt,false,false,[],ge [],gv [ao _ 42 [] qrk (C:=(Int×(List af)×Int×Int×Int×(List af)×Int×Int×Int×Int×Int)) (S:=(Int×(List af))) (fun x=>((x.2.1.1,x.2.1.2.1,x.2.1.2.2.1,(pe3 x.2.1),x.2.2.1.1,x.2.2.1.2.1,x.2.2.1.2.2.1,(pe3 x.2.2.1),(pe3 x).1,(pe3 x).2.2.1,(pe3 (pe3 x))),((pe3 x.1),(pe4 x)))) qrj (CE:=(Int×(List af)×Int×Int×Int×Int×Int)) (E:=(List af)) (fun c e=>(((),(),()),((c.1,c.2.1,c.2.2.1,(pe3 c),()),((pe4 c),(),(pe5 c),(pf6 c),()),e,()))) (fun c=>((pe4 c),(pe5 c),(pe6 c),(pe7 c),(pe8 c),(pe9 c),(pf10 c))) (fun{R} c a nx dn rt=>qk c.1 c.2.1 c.2.2.1 (pe3 c) (pe4 c) (pe5 c) (pe6 c) (pe7 c) (pe8 c) (pe9 c) (pf10 c) a.1 a.2 nx dn rt)],bq 42 tt [] [.cell 2 24] qg5 (fun x=>x.1.1)⟩
theorem qi9:CtxM Try.prog qjb:=ic fits mixed m0
theorem qt9:aw Try.prog qjb 0 (lc 0 Try.f40 75):=lp rfl qi9 (.two .z (.two (.one (.two .z (.d [0,1,0,4,0,0,32,112,0,0,512,2032,4092,8188,16383,32767,65535] [7,11,12,13,14,16] []))) .z)) s0 (fun c a=>(((),(),(),a.1,()),((c.1,c.2.1,c.2.2.1,(pe3 c),()),((pe4 c),(pe5 c),(pe6 c),(pe7 c),()),((pe8 c),(),(pe9 c),(pf10 c),()),a.2,()))) (fun y=>((y.2.1.1,y.2.1.2.1,y.2.1.2.2.1,(pe3 y.2.1),y.2.2.1.1,y.2.2.1.2.2.1,(pe3 y.2.2.1)),(pe3 y)))
abbrev qja:Mdl:=(au (.cons (.d false az.ty) .nil) [] [] 1 qg5 (B:=az) (fun b=>((b,()),(()))) (fun a=>yc a.1.1))
theorem qrl:MdlOK Try.prog 40 qja:=g9 Try.func40 rfl qi9 (.two .z (.two .z (.two (.two .z (.s 0)) .z))) (sC qt9 s0)
def qo7:Shp:=⟨[qc3],[]⟩
abbrev qsw:Ctx (Bool):=⟨18,tt,false,false,[],ge [(41,qfx)],gv [ao _ 18 [] qy7 (C:=(qL1×qL1)) (S:=Int) (fun x=>((x.1.1,x.1.2.1),x.1.2.2.1)) qy6 (CE:=Unit) (E:=Unit) (fun c e=>((()),(()))) (fun c=>()) (fun{R} c a nx dn rt=>ye c.1 c.2 a nx dn rt)],bq 18 tt [] [.tmp 4] qo7 (fun x=>x.1.1)⟩
theorem qsu:CtxM Try.prog qsw:=ic fits mixed (mC qfy m0)
theorem q2g:aw Try.prog qsw 0 (lc 0 Try.f42 37):=lp rfl qsu .z s0 (fun c a=>((c.1,c.2,a,()),(()))) (fun y=>((),()))
abbrev qsv:Mdl:=(au (.cons (.d false qT1) (.cons (.d false qT1) .nil)) [] [] 1 qo7 (B:=Bool) (fun b=>((b,()),(()))) (fun a=>qby a.1.1 a.1.2.1))
theorem qy8:MdlOK Try.prog 42 qsv:=g9 Try.func42 rfl qsu (.two .z (.two (.two .z (.s 0)) .z)) (sC q2g s0)
def qeo:Shp:=⟨[qc3],[]⟩
abbrev zw:Ctx (Bool):=⟨81,tt,false,false,[],ge [(38,vm),(39,qo5),(40,qja),(41,qfx),(42,qsv)],gv [ao _ 81 [] qo0 (C:=(qL1×qL1×Int×(List af)×Int×Int)) (S:=Int) (fun x=>((x.1.2.1,x.1.2.2.1,x.2.1.1,x.2.1.2.1,x.2.1.2.2.1,(pe3 x.2.1)),(pe3 x.1))) qoz (CE:=(qL1×qL1×Int×(List af)×Int×Int)) (E:=Unit) (fun c e=>(((),c.1,c.2.1,()),((c.2.2.1,(pe3 c),(pe4 c),(pf5 c),()),()))) (fun c=>(c.1,c.2.1,c.2.2.1,(pe3 c),(pe4 c),(pf5 c))) (fun{R} c a nx dn rt=>l5 c.1 c.2.1 c.2.2.1 (pe3 c) (pe4 c) (pf5 c) a nx dn rt),ao _ 81 [] qo2 (C:=(qL1×qL1×Int×(List af)×Int×Int)) (S:=Int) (fun x=>((x.1.2.1,x.1.2.2.1,x.2.1.1,x.2.1.2.1,x.2.1.2.2.1,(pe3 x.2.1)),(pe3 x.1))) qo1 (CE:=Unit) (E:=Unit) (fun c e=>((()),(()))) (fun c=>()) (fun{R} c a nx dn rt=>o3 c.1 c.2.1 c.2.2.1 (pe3 c) (pe4 c) (pf5 c) a nx dn rt)],bq 81 tt [] [.tmp 2] qeo (fun x=>x.1.1)⟩
theorem zt:CtxM Try.prog zw:=ic fits mixed (mC vp (mC qxg (mC qrl (mC qfy (mC qy8 m0)))))
theorem qrn:aw Try.prog zw 1 (lc 2 Try.f12 607):=lp rfl zt .z s0 (fun c a=>(((),c.1,c.2.1,a,()),((c.2.2.1,(pe3 c),(pe4 c),(pf5 c),()),()))) (fun y=>((),()))
theorem qrm:aw Try.prog zw 0 (lc 0 Try.f12 303):=lp rfl zt .z s0 (fun c a=>(((),c.1,c.2.1,a,()),((c.2.2.1,(pe3 c),(pe4 c),(pf5 c),()),()))) (fun y=>((y.1.2.1,y.1.2.2.1,y.2.1.1,y.2.1.2.1,y.2.1.2.2.1,(pe3 y.2.1)),()))
abbrev qg6:Mdl:=(au (.cons (.d false az.ty) .nil) [] [] 1 qeo (B:=Bool) (fun b=>((b,()),(()))) (fun a=>m6 a.1.1))
theorem qo3:MdlOK Try.prog 12 qg6:=g9 Try.func12 rfl zt (.two .z (.two .z (.two .z (.two (.d [0,1,0,4,15,31] [] []) (.two (.two .z (.s 0)) (.two (.two .z (.s 1)) .z)))))) (sC qrm (sC qrn s0))
def qso:Shp:=⟨[jq0],[]⟩
abbrev q59:Ctx (qL1):=⟨13,tt,false,false,[],ge [],gv [],bq 13 tt [] [.tmp 4] qso (fun x=>x.1.1)⟩
theorem q58:CtxM Try.prog q59:=ic fits mixed m0
abbrev qmq:Mdl:=(au (.cons (.d false az.ty) (.cons (.d false qT0) .nil)) [] [] 1 qso (B:=qL1) (fun b=>((b,()),(()))) (fun a=>qel a.1.1 a.1.2.1))
theorem qou:MdlOK Try.prog 15 qmq:=g9 Try.func15 rfl q58 .z s0
def qg1:Shp:=⟨[qc3],[]⟩
abbrev qi3:Ctx (Bool):=⟨26,tt,false,false,[],ge [],gv [ao _ 26 [] qrf (C:=(qL1×qL1)) (S:=Int) (fun x=>((x.1.1,x.1.2.1),x.1.2.2.1)) qre (CE:=Unit) (E:=Unit) (fun c e=>((()),(()))) (fun c=>()) (fun{R} c a nx dn rt=>m5 c.1 c.2 a nx dn rt)],bq 26 tt [] [.tmp 4] qg1 (fun x=>x.1.1)⟩
theorem qi1:CtxM Try.prog qi3:=ic fits mixed m0
theorem qt7:aw Try.prog qi3 0 (lc 0 Try.f22 75):=lp rfl qi1 (.two .z (.two (.one (.two (.d [0,0,3,7,0,0,48,112,255] [] []) .z)) .z)) s0 (fun c a=>((c.1,c.2,a,()),(()))) (fun y=>((),()))
abbrev qi2:Mdl:=(au (.cons (.d false qT1) (.cons (.d false qT1) .nil)) [] [] 1 qg1 (B:=Bool) (fun b=>((b,()),(()))) (fun a=>x9 a.1.1 a.1.2.1))
theorem qrg:MdlOK Try.prog 22 qi2:=g9 Try.func22 rfl qi1 (.two .z (.two .z (.two (.two .z (.s 0)) .z))) (sC qt7 s0)
def qg3:Shp:=⟨[qc3],[]⟩
abbrev qi8:Ctx (Bool):=⟨29,tt,false,false,[],ge [],gv [ao _ 29 [] qri (C:=qL1) (S:=Int) (fun x=>(x.1.1,x.1.2.1)) qrh (CE:=Unit) (E:=Unit) (fun c e=>((()),(()))) (fun c=>()) (fun{R} c a nx dn rt=>qj c a nx dn rt)],bq 29 tt [] [.tmp 4] qg3 (fun x=>x.1.1)⟩
theorem qi7:CtxM Try.prog qi8:=ic fits mixed m0
theorem qt8:aw Try.prog qi8 0 (lc 0 Try.f56 75):=lp rfl qi7 .z s0 (fun c a=>((c,a,()),(()))) (fun y=>((),()))
abbrev qbx:Mdl:=(au (.cons (.d false az.ty) (.cons (.d false qT1) .nil)) [] [] 1 qg3 (B:=Bool) (fun b=>((b,()),(()))) (fun a=>ou a.1.1 a.1.2.1))
theorem qek:MdlOK Try.prog 56 qbx:=g9 Try.func56 rfl qi7 (.two .z (.two .z (.two (.two .z (.s 0)) .z))) (sC qt8 s0)
def qsl:Shp:=⟨[qc3],[]⟩
abbrev qw1:Ctx (Bool):=⟨32,tt,false,false,[],ge [],gv [ao _ 32 [] q16 (C:=(qL1×Int×Int×(List af)×Int×Int)) (S:=Int) (fun x=>((x.1.1,x.1.2.1,x.2.1.1,x.2.1.2.1,x.2.1.2.2.1,(pe3 x.2.1)),(pe3 x.1))) q15 (CE:=Unit) (E:=Unit) (fun c e=>((()),(()))) (fun c=>()) (fun{R} c a nx dn rt=>vi c.1 c.2.1 c.2.2.1 (pe3 c) (pe4 c) (pf5 c) a nx dn rt)],bq 32 tt [] [.tmp 6] qsl (fun x=>x.1.1)⟩
theorem qwz:CtxM Try.prog qw1:=ic fits mixed m0
theorem q4g:aw Try.prog qw1 0 (lc 0 Try.f91 37):=lp rfl qwz .z s0 (fun c a=>((c.1,c.2.1,(),a,()),((c.2.2.1,(pe3 c),(pe4 c),(pf5 c),()),()))) (fun y=>((),()))
abbrev qw0:Mdl:=(au (.cons (.d false az.ty) (.cons (.d false qT1) (.cons (.d false qT0) .nil))) [] [] 1 qsl (B:=Bool) (fun b=>((b,()),(()))) (fun a=>qjy a.1.1 a.1.2.1 a.1.2.2.1))
theorem q17:MdlOK Try.prog 91 qw0:=g9 Try.func91 rfl qwz (.two .z (.two (.two .z (.s 0)) .z)) (sC q4g s0)
def qot:Shp:=⟨[jjb,jbz],[qpn]⟩
abbrev qi6:Ctx ((Int×qL1)):=⟨112,tt,false,false,[],ge [(38,vm),(56,qbx),(91,qw0)],gv [ao _ 112 [] qyw (C:=(Int×Int×(List af)×Int×Int)) (S:=(Int×qL1)) (fun x=>((x.1.1,x.2.1.1,x.2.1.2.1,x.2.1.2.2.1,(pe3 x.2.1)),((pe3 x.1),x.2.2.1))) qyv (CE:=(Int×Int×(List af)×Int×Int)) (E:=qL1) (fun c e=>((c.1,(),(),()),((c.2.1,c.2.2.1,(pe3 c),(pf4 c),()),e,()))) (fun c=>(c.1,c.2.1,c.2.2.1,(pe3 c),(pf4 c))) (fun{R} c a nx dn rt=>ya c.1 c.2.1 c.2.2.1 (pe3 c) (pf4 c) a.1 a.2 nx dn rt),ao _ 112 [] qyy (C:=(Int×Int×(List af)×Int×Int)) (S:=(Int×qL1)) (fun x=>((x.1.1,x.2.1.1,x.2.1.2.1,x.2.1.2.2.1,(pe3 x.2.1)),((pe3 x.1),x.2.2.1))) qyx (CE:=(Int×(List af)×Int×Int)) (E:=qL1) (fun c e=>(((),(),()),((c.1,c.2.1,c.2.2.1,c.2.2.2,()),e,()))) (fun c=>(c.2.1,c.2.2.1,(pe3 c),(pf4 c))) (fun{R} c a nx dn rt=>yb c.1 c.2.1 c.2.2.1 (pe3 c) (pf4 c) a.1 a.2 nx dn rt)],bq 112 tt [] [.tmp 6, .tmp 7] qot (fun x=>(x.1.2.1,x.2.1))⟩
theorem qi4:CtxM Try.prog qi6:=ic fits mixed (mC vp (mC qek (mC q17 m0)))
theorem q19:aw Try.prog qi6 1 (lc 2 Try.f70 1215):=lp rfl qi4 (.two .z (.two (.one (.d [0,0,2,0,14,30,62,0,254,510,0,0,2048,0,14336,30720,63488,0,260096,522240,1047552,2096128,4193280,8388607,16777215] [24] [])) .z)) s0 (fun c a=>((c.1,(),(),a.1,()),((c.2.1,c.2.2.1,(pe3 c),(pf4 c),()),a.2,()))) (fun y=>((y.2.1.1,y.2.1.2.1,y.2.1.2.2.1,(pe3 y.2.1)),y.2.2.1))
theorem q18:aw Try.prog qi6 0 (lc 0 Try.f70 607):=lp rfl qi4 (.two .z (.two (.one (.d [0,0,2,0,14,30,62,0,254,510,0,0,2048,0,14336,30720,63488,0,260096,522240,1047552,2096128,4193280,8388607,16777215] [24] [])) .z)) s0 (fun c a=>((c.1,(),(),a.1,()),((c.2.1,c.2.2.1,(pe3 c),(pf4 c),()),a.2,()))) (fun y=>((y.1.1,y.2.1.1,y.2.1.2.1,y.2.1.2.2.1,(pe3 y.2.1)),y.2.2.1))
abbrev qi5:Mdl:=(au (.cons (.d false az.ty) (.cons (.d false qT1) (.cons (.d false qT0) .nil))) [] [] 2 qot (B:=(Int×qL1)) (fun b=>(((),b.1,()),(b.2,()))) (fun a=>ny a.1.1 a.1.2.1 a.1.2.2.1))
theorem qlk:MdlOK Try.prog 70 qi5:=g9 Try.func70 rfl qi4 (.two .z (.two .z (.two .z (.two .z (.two .z (.two (.two .z (.s 0)) (.two (.two .z (.s 1)) .z))))))) (sC q18 (sC q19 s0))
def wo:Shp:=⟨[qc3],[]⟩
abbrev qh4:Ctx (Bool):=⟨9,tt,false,false,[],ge [],gv [],bq 9 tt [] [.tmp 3] wo (fun x=>x.1.1)⟩
theorem qh3:CtxM Try.prog qh4:=ic fits mixed m0
abbrev yq:Mdl:=(au (.cons (.d false ab.ty) (.cons (.rp false (.slice .str)) .nil)) [] [] 1 wo (B:=Bool) (fun b=>((b,()),(()))) (fun a=>rc a.1.1 a.1.2.1))
theorem qfq:MdlOK Try.prog 61 yq:=g9 Try.func61 rfl qh3 .z s0
def cr:Shp:=⟨[q2y],[]⟩
abbrev c6:Ctx (Int):=⟨19,tt,false,false,[],ge [(61,yq)],gv [ao _ 19 [] il (C:=((List ab)×(List ByteArray)×Int)) (S:=Int) (fun x=>((x.1.1,x.1.2.1.1,x.1.2.2.1),(pe3 x.1))) ij (CE:=Unit) (E:=Unit) (fun c e=>((()),(()))) (fun c=>()) (fun{R} c a nx dn rt=>bg c.1 c.2.1 c.2.2 a nx dn rt)],bq 19 tt [] [.tmp 4] cr (fun x=>x.1.1)⟩
theorem cz:CtxM Try.prog c6:=ic fits mixed (mC qfq m0)
theorem iw:aw Try.prog c6 0 (lc 0 Try.f60 37):=lp rfl cz .z s0 (fun c a=>((c.1,(c.2.1,()),c.2.2,a,()),(()))) (fun y=>((),()))
abbrev c0:Mdl:=(au (.cons (.d false (.slice ab.ty)) (.cons (.fn 61 (.cons (.rp false (.slice .str)) .nil)) .nil)) [] [] 1 cr (B:=Int) (fun b=>((b,()),(()))) (fun a=>bh a.1.1 a.1.2.1.1))
theorem im:MdlOK Try.prog 60 c0:=g9 Try.func60 rfl cz (.two .z (.two (.two .z (.s 0)) .z)) (sC iw s0)
def qaa:Shp:=⟨[qc3,(1, .d true qT1),qxt],[]⟩
abbrev ql3:Ctx ((Bool×qL1×Int)):=⟨48,tt,false,false,[],ge [(58,qbh),(59,ta),(60,c0)],gv [],bq 48 tt [] [.tmp 8, .tmp 9, .tmp 10] qaa (fun x=>(x.1.1,x.1.2.1,x.1.2.2.1))⟩
theorem ql2:CtxM Try.prog ql3:=ic fits mixed (mC qdx (mC yv (mC im m0)))
abbrev qbf:Mdl:=(au (.cons (.d false az.ty) (.cons (.d false az.ty) (.cons (.d false qT1) (.cons (.d false qT0) .nil)))) [] [] 3 qaa (B:=(Bool×qL1×Int)) (fun b=>((b.1,b.2.1,b.2.2,()),(()))) (fun a=>i7 a.1.1 a.1.2.1 a.1.2.2.1 (pe3 a.1)))
theorem qh5:MdlOK Try.prog 27 qbf:=g9 Try.func27 rfl ql2 (.two .z (.two .z (.two .z (.two .z (.two (.two .z (.two .z (.two (.two (.d [0,0,3,7,15,0,63,127] [] []) .z) .z))) .z))))) s0
def qsq:Shp:=⟨[jq0,jbz,qxt],[]⟩
abbrev qw6:Ctx ((qL1×Int×Int)):=⟨52,tt,false,false,[],ge [(38,vm),(56,qbx),(70,qi5)],gv [ao _ 52 [] q2d (C:=(qL1×Int×(List af)×Int×Int)) (S:=(qL1×Int)) (fun x=>((x.1.1,x.2.1.1,x.2.1.2.1,x.2.1.2.2.1,(pe3 x.2.1)),(x.1.2.2.1,(pe3 x.1)))) q2c (CE:=qL1) (E:=qL1) (fun c e=>((c,e,()),(()))) (fun c=>c.1) (fun{R} c a nx dn rt=>vj c.1 c.2.1 c.2.2.1 (pe3 c) (pf4 c) a.1 a.2 nx dn rt)],bq 52 tt [] [.tmp 6, .tmp 7, .tmp 8] qsq (fun x=>(x.1.1,x.1.2.1,x.1.2.2.1))⟩
theorem qw4:CtxM Try.prog qw6:=ic fits mixed (mC vp (mC qek (mC qlk m0)))
theorem q4i:aw Try.prog qw6 0 (lc 0 Try.f62 303):=lp rfl qw4 (.two .z (.two (.one (.two (.d [0,0,0,0,12,28,63,127,255,255,511,2047] [] []) .z)) .z)) s0 (fun c a=>((c.1,(),a.1,a.2,()),((c.2.1,c.2.2.1,(pe3 c),(pf4 c),()),()))) (fun y=>(y.1.1,y.1.2.1))
abbrev qw5:Mdl:=(au (.cons (.d false az.ty) (.cons (.d false qT1) (.cons (.d false qT1) .nil))) [] [] 3 qsq (B:=(qL1×Int×Int)) (fun b=>((b.1,b.2.1,b.2.2,()),(()))) (fun a=>qjz a.1.1 a.1.2.1 a.1.2.2.1))
theorem q2e:MdlOK Try.prog 62 qw5:=g9 Try.func62 rfl qw4 (.two .z (.two .z (.two .z (.two .z (.two (.two .z (.s 0)) .z))))) (sC q4i s0)
def qoy:Shp:=⟨[jtj,jbz],[q9m]⟩
abbrev qst:Ctx ((Int×(List ByteArray))):=⟨58,tt,false,false,[],ge [(38,vm)],gv [ao _ 58 [] qy1 (C:=(qL1×Int×(List af)×Int×Int)) (S:=(Int×(List ByteArray))) (fun x=>((x.1.1,x.2.1.1,x.2.1.2.1,x.2.1.2.2.1,(pe3 x.2.1)),((pe3 x.1),x.2.2.1))) qy0 (CE:=Unit) (E:=(List ByteArray)) (fun c e=>(((),()),(e,()))) (fun c=>()) (fun{R} c a nx dn rt=>yd c.1 c.2.1 c.2.2.1 (pe3 c) (pf4 c) a.1 a.2 nx dn rt)],bq 58 tt [] [.tmp 4, .tmp 5] qoy (fun x=>(x.1.2.1,x.2.1))⟩
theorem qsr:CtxM Try.prog qst:=ic fits mixed (mC vp m0)
theorem q2f:aw Try.prog qst 0 (lc 0 Try.f63 303):=lp rfl qsr (.two .z (.two (.one (.two (.two (.d [0,0,3,7,15,31,63,63,255,511,63,1087,3135,8191,16383] [] []) .z) (.two (.d [0,1,0,0,12,28,63,127,255,511] [] []) (.two (.d [0,0,2,0,0,24,56,126,254,510,1022,2047,4095] [11,12] []) .z)))) .z)) s0 (fun c a=>((c.1,(),(),a.1,()),((c.2.1,c.2.2.1,(pe3 c),(pf4 c),()),a.2,()))) (fun y=>((),y.2.1))
abbrev qss:Mdl:=(au (.cons (.d false az.ty) (.cons (.d false qT1) .nil)) [] [] 2 qoy (B:=(Int×(List ByteArray))) (fun b=>(((),b.1,()),(b.2,()))) (fun a=>qfz a.1.1 a.1.2.1))
theorem qy2:MdlOK Try.prog 63 qss:=g9 Try.func63 rfl qsr (.two .z (.two .z (.two .z (.two .z (.two (.two .z (.s 0)) .z))))) (sC q2f s0)
def qg8:Shp:=⟨[jq0,jtu,jqe],[q9m]⟩
abbrev qxi:Ctx ((qL1×Bool×(List ByteArray))):=⟨33,tt,false,false,[],ge [(15,qmq),(62,qw5),(63,qss)],gv [],bq 33 tt [] [.tmp 4, .tmp 5, .tmp 6] qg8 (fun x=>(x.1.1,x.1.2.2.1,x.2.1))⟩
theorem qxh:CtxM Try.prog qxi:=ic fits mixed (mC qou (mC q2e (mC qy2 m0)))
abbrev qbz:Mdl:=(au (.cons (.d false az.ty) (.cons (.d false qT1) .nil)) [] [] 3 qg8 (B:=(qL1×Bool×(List ByteArray))) (fun b=>((b.1,(),b.2.1,()),(b.2.2,()))) (fun a=>sd a.1.1 a.1.2.1))
theorem qes:MdlOK Try.prog 29 qbz:=g9 Try.func29 rfl qxh (.two .z (.two (.d [0,0,0,4,14,0,63,127,255,255,255,511,3071,8191] [] []) .z)) s0
def qhz:Shp:=⟨[q2y],[]⟩
abbrev qx4:Ctx (Int):=⟨35,tt,false,false,[],ge [(12,qg6),(29,qbz)],gv [],bq 35 tt [] [.tmp 8] qhz (fun x=>x.1.1)⟩
theorem qx3:CtxM Try.prog qx4:=ic fits mixed (mC qo3 (mC qes m0))
abbrev qkz:Mdl:=(au (.cons (.d false az.ty) (.cons (.d false az.ty) (.cons (.d false qT1) (.cons (.d false qT0) .nil)))) [] [] 1 qhz (B:=Int) (fun b=>((b,()),(()))) (fun a=>ur a.1.1 a.1.2.1 a.1.2.2.1 (pe3 a.1)))
theorem qta:MdlOK Try.prog 28 qkz:=g9 Try.func28 rfl qx3 .z s0
def qc0:Shp:=⟨[jjb,jtt],[quh]⟩
abbrev m8:Ctx ((Bool×(List ab))):=⟨139,tt,false,true,[],ge [(15,qmq),(70,qi5),(22,qi2)],gv [ao _ 139 [] qmv (C:=((List ByteArray)×Int×Int×Int×Int×qL1×Int×(List af)×Int×Int×(List ab))) (S:=(Bool×Int)) (fun x=>((x.1.1,x.1.2.1,(pe4 x.1),(pe5 x.1),(pe6 x.1),(pe7 x.1),x.2.1.1,x.2.1.2.1,x.2.1.2.2.1,(pe3 x.2.1),x.2.2.1),((pe8 x.1),(pe9 x.1)))) qmu (CE:=((List ByteArray)×Int×Int×Int×Int×qL1×Int×(List af)×Int×Int×(List ab))) (E:=Bool) (fun c e=>((c.1,c.2.1,(),(),c.2.2.1,(pe3 c),(pe4 c),(pe5 c),e,()),(((pe6 c),(pe7 c),(pe8 c),(pe9 c),()),(pf10 c),()))) (fun c=>(c.1,c.2.1,c.2.2.1,(pe3 c),(pe4 c),(pe5 c),(pe6 c),(pe7 c),(pe8 c),(pe9 c),(pf10 c))) (fun{R} c a nx dn rt=>k8 c.1 c.2.1 c.2.2.1 (pe3 c) (pe4 c) (pe5 c) (pe6 c) (pe7 c) (pe8 c) (pe9 c) (pf10 c) a.1 a.2 nx dn rt),qba _ 139 [] qm1 (A:=((List ByteArray)×Int×Int×Int×Int×Int×(List af)×Int×Int×(List ab))) (fun x=>(x.1.1,x.1.2.1,(pe4 x.1),(pe5 x.1),(pe6 x.1),x.2.1.1,x.2.1.2.1,x.2.1.2.2.1,(pe3 x.2.1),x.2.2.1)) qm0 (CE:=((List ByteArray)×Int×Int×Int×Int×(List af)×Int×Int)) (E:=(List ab)) (fun c e=>((c.1,c.2.1,(),(),c.2.2.1,(pe3 c),()),(((pe4 c),(pe5 c),(pe6 c),(pf7 c),()),e,()))) (fun c=>(c.1,c.2.1,c.2.2.1,(pe3 c),(pe5 c),(pe6 c),(pe7 c),(pe8 c))) (fun{R} c dn rt=>td c.1 c.2.1 c.2.2.1 (pe3 c) (pe4 c) (pe5 c) (pe6 c) (pe7 c) (pe8 c) (pf9 c) dn rt),ao _ 139 [] qmx (C:=((List ByteArray)×Int×Int×Int×(List af)×Int×Int)) (S:=(Int×(List ab))) (fun x=>((x.1.1,x.1.2.1,(pe4 x.1),x.2.1.1,x.2.1.2.1,x.2.1.2.2.1,(pe3 x.2.1)),((pe5 x.1),x.2.2.1))) qmw (CE:=((List ByteArray)×Int×Int×Int×(List af)×Int×Int)) (E:=(List ab)) (fun c e=>((c.1,c.2.1,(),(),c.2.2.1,()),(((pe3 c),(pe4 c),(pe5 c),(pf6 c),()),e,()))) (fun c=>(c.1,c.2.1,c.2.2.1,(pe3 c),(pe4 c),(pe5 c),(pf6 c))) (fun{R} c a nx dn rt=>ez c.1 c.2.1 c.2.2.1 (pe3 c) (pe4 c) (pe5 c) (pf6 c) a.1 a.2 nx dn rt),ao _ 139 [] qmz (C:=((List ByteArray)×Int×Int×(List af)×Int×Int)) (S:=(Int×(List ab))) (fun x=>((x.1.1,x.1.2.1,x.2.1.1,x.2.1.2.1,x.2.1.2.2.1,(pe3 x.2.1)),((pe4 x.1),x.2.2.1))) qmy (CE:=Int) (E:=(List ab)) (fun c e=>((c,(),()),(e,()))) (fun c=>c.2.1) (fun{R} c a nx dn rt=>gl c.1 c.2.1 c.2.2.1 (pe3 c) (pe4 c) (pf5 c) a.1 a.2 nx dn rt)],bq 139 tt [] [.tmp 6, .tmp 7] qc0 (fun x=>(x.1.2.1,x.2.1))⟩
theorem m7:CtxM Try.prog m8:=ic fits mixed (mC qou (mC qlk (mC qrg m0)))
theorem qo9:aw Try.prog m8 0 (lc 4 Try.f64 9933387):=lp rfl m7 .z s0 (fun c a=>((c.1,c.2.1,(),(),c.2.2.1,(pe3 c),(pe4 c),(pe5 c),a.1,a.2,()),(((pe6 c),(pe7 c),(pe8 c),(pe9 c),()),(pf10 c),()))) (fun y=>((y.1.1,y.1.2.1,(pe4 y.1),(pe5 y.1),(pe6 y.1),(pe7 y.1),y.2.1.1,y.2.1.2.1,y.2.1.2.2.1,(pe3 y.2.1),y.2.2.1),(pe8 y.1)))
theorem qpa:aw Try.prog m8 1 (jc Try.f64 234059):=jn rfl m7 (.two (.d [0,0,0,6,14,30,0,127,255,511,511,1023,4095] [] []) (.two .z (.two (.two .z (.s 0)) .z))) (sC qo9 s0) (fun c=>((c.1,c.2.1,(),(),c.2.2.1,(pe3 c),(pe4 c),()),(((pe5 c),(pe6 c),(pe7 c),(pe8 c),()),(pf9 c),()))) (fun y=>((y.1.1,y.1.2.1,(pe4 y.1),(pe5 y.1),y.2.1.1,y.2.1.2.1,y.2.1.2.2.1,(pe3 y.2.1)),y.2.2.1))
theorem qpb:aw Try.prog m8 2 (lc 2 Try.f64 4683):=lp rfl m7 (.two .z (.two (.one (.two .z (.two (.two .z (.two (.two (.two (.d [0,0,2,7,15,31,31,127,255,31,543,31,3615,7711,15903,32767,65535] [] []) .z) .z) .z)) (.s 1)))) .z)) (sC qpa s0) (fun c a=>((c.1,c.2.1,(),(),c.2.2.1,a.1,()),(((pe3 c),(pe4 c),(pe5 c),(pf6 c),()),a.2,()))) (fun y=>((y.1.1,y.1.2.1,(pe4 y.1),y.2.1.1,y.2.1.2.1,y.2.1.2.2.1,(pe3 y.2.1)),y.2.2.1))
theorem qpc:aw Try.prog m8 3 (lc 0 Try.f64 75):=lp rfl m7 (.two .z (.two (.one (.two .z (.s 2))) .z)) (sC qpb s0) (fun c a=>((c.1,c.2.1,(),(),a.1,()),((c.2.2.1,(pe3 c),(pe4 c),(pf5 c),()),a.2,()))) (fun y=>(y.1.1,y.2.1))
abbrev qet:Mdl:=(au (.cons (.d false az.ty) (.cons (.d false (.slice .str)) (.cons (.d false qT0) .nil))) [] [] 2 qc0 (B:=(Bool×(List ab))) (fun b=>(((),b.1,()),(b.2,()))) (fun a=>s5 a.1.1 a.1.2.1 a.1.2.2.1))
theorem qm2:MdlOK Try.prog 64 qet:=g9 Try.func64 rfl m7 (.two .z (.two .z (.two (.two .z (.s 3)) .z))) (sC qpc s0)
def qcy:Shp:=⟨[qc3,(1, .d true qT1),qxt],[]⟩
abbrev qer:Ctx ((Bool×qL1×Int)):=⟨44,tt,false,false,[],ge [(64,qet)],gv [ao _ 44 [] qms (C:=((List ByteArray)×Int×(List ab)×Bool)) (S:=Int) (fun x=>((x.1.1,x.1.2.1,x.1.2.2.1,(pe3 x.1)),(pe4 x.1))) qmr (CE:=Bool) (E:=Unit) (fun c e=>((c,()),(()))) (fun c=>c.2.2.2) (fun{R} c a nx dn rt=>n4 c.1 c.2.1 c.2.2.1 c.2.2.2 a nx dn rt)],bq 44 tt [] [.tmp 6, .tmp 7, .tmp 8] qcy (fun x=>(x.1.1,x.1.2.1,x.1.2.2.1))⟩
theorem qep:CtxM Try.prog qer:=ic fits mixed (mC qm2 m0)
theorem qo8:aw Try.prog qer 0 (lc 0 Try.f30 75):=lp rfl qep (.two .z (.two (.one (.two .z (.two (.two (.d [0,0,3,7,15,0,63,127] [] []) .z) .z))) .z)) s0 (fun c a=>((c.1,c.2.1,c.2.2.1,c.2.2.2,a,()),(()))) (fun y=>(y.1.1,()))
abbrev qeq:Mdl:=(au (.cons (.d false az.ty) (.cons (.d false (.slice .str)) (.cons (.d false qT0) .nil))) [] [] 3 qcy (B:=(Bool×qL1×Int)) (fun b=>((b.1,b.2.1,b.2.2,()),(()))) (fun a=>s4 a.1.1 a.1.2.1 a.1.2.2.1))
theorem qmt:MdlOK Try.prog 30 qeq:=g9 Try.func30 rfl qep (.two .z (.two .z (.two (.two .z (.s 0)) .z))) (sC qo8 s0)
def rv:Shp:=⟨[qc3],[]⟩
abbrev tz:Ctx (Bool):=⟨95,tt,false,false,[],ge [(8,qnu),(9,qnv),(10,qr8),(27,qbf),(28,qkz),(29,qbz),(30,qeq),(19,dg)],gv [qba _ 95 [] qb7 (A:=(qL1×Int×Int×(List af)×Int×Int×Int×(List af)×Int×Int)) (fun x=>(x.1.1,x.1.2.1,x.2.1.1,x.2.1.2.1,x.2.1.2.2.1,(pe3 x.2.1),x.2.2.1.1,x.2.2.1.2.1,x.2.2.1.2.2.1,(pe3 x.2.2.1))) qb6 (CE:=Unit) (E:=Unit) (fun c e=>((()),(()))) (fun c=>()) (fun{R} c dn rt=>ly c.1 c.2.1 c.2.2.1 (pe3 c) (pe4 c) (pe5 c) (pe6 c) (pe7 c) (pe8 c) (pf9 c) dn rt)],bq 95 tt [] [.tmp 8] rv (fun x=>x.1.1)⟩
theorem tx:CtxM Try.prog tz:=ic fits mixed (mC qvn (mC qvq (mC qx8 (mC qh5 (mC qta (mC qes (mC qmt (mC dl m0))))))))
theorem qc8:aw Try.prog tz 0 (jc Try.f6 15):=jn rfl tx .z s0 (fun c=>((c.1,c.2.1,(),(),()),((c.2.2.1,(pe3 c),(pe4 c),(pe5 c),()),((pe6 c),(pe7 c),(pe8 c),(pf9 c),()),()))) (fun y=>((),()))
abbrev qdq:Mdl:=(au (.cons (.d true az.ty) (.cons (.d true az.ty) (.cons (.d true qT1) (.cons (.d true qT0) .nil)))) [] [] 1 rv (B:=Bool) (fun b=>((b,()),(()))) (fun a=>nu a.1.1 a.1.2.1 a.1.2.2.1 (pe3 a.1)))
theorem qb8:MdlOK Try.prog 6 qdq:=g9 Try.func6 rfl tx (.two .z (.two .z (.two .z (.s 0)))) (sC qc8 s0)
end
end Go.Proofs.Ytdhfhpdadbopkaa
