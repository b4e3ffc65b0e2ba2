/-
  The functions compute what their models say. Made by program (mg3.py) out of the translation.
-/
import Derived.Test.YtdhfhpdadbopkaaZ7Md
import Derived.Test.YtdhfhpdadbopkaaZ7Tt
import Derived.Test.YtdhfhpdadbopkaaZ7Ky
set_option linter.all false
set_option maxRecDepth 100000
namespace Go.Proofs.Ytdhfhpdadbopkaa
open Go.K Go.M
abbrev pe3{A0 A1 A2 A3 A4:Type}(x:A0×A1×A2×A3×A4):A3:=x.2.2.2.1
abbrev pe4{A0 A1 A2 A3 A4 A5:Type}(x:A0×A1×A2×A3×A4×A5):A4:=x.2.2.2.2.1
abbrev pe5{A0 A1 A2 A3 A4 A5 A6:Type}(x:A0×A1×A2×A3×A4×A5×A6):A5:=x.2.2.2.2.2.1
abbrev pe6{A0 A1 A2 A3 A4 A5 A6 A7:Type}(x:A0×A1×A2×A3×A4×A5×A6×A7):A6:=x.2.2.2.2.2.2.1
abbrev pe7{A0 A1 A2 A3 A4 A5 A6 A7 A8:Type}(x:A0×A1×A2×A3×A4×A5×A6×A7×A8):A7:=x.2.2.2.2.2.2.2.1
abbrev pe8{A0 A1 A2 A3 A4 A5 A6 A7 A8 A9:Type}(x:A0×A1×A2×A3×A4×A5×A6×A7×A8×A9):A8:=x.2.2.2.2.2.2.2.2.1
abbrev pe9{A0 A1 A2 A3 A4 A5 A6 A7 A8 A9 A10:Type}(x:A0×A1×A2×A3×A4×A5×A6×A7×A8×A9×A10):A9:=x.2.2.2.2.2.2.2.2.2.1
abbrev pe10{A0 A1 A2 A3 A4 A5 A6 A7 A8 A9 A10 A11:Type}(x:A0×A1×A2×A3×A4×A5×A6×A7×A8×A9×A10×A11):A10:=x.2.2.2.2.2.2.2.2.2.2.1
abbrev pe11{A0 A1 A2 A3 A4 A5 A6 A7 A8 A9 A10 A11 A12:Type}(x:A0×A1×A2×A3×A4×A5×A6×A7×A8×A9×A10×A11×A12):A11:=x.2.2.2.2.2.2.2.2.2.2.2.1
abbrev pe12{A0 A1 A2 A3 A4 A5 A6 A7 A8 A9 A10 A11 A12 A13:Type}(x:A0×A1×A2×A3×A4×A5×A6×A7×A8×A9×A10×A11×A12×A13):A12:=x.2.2.2.2.2.2.2.2.2.2.2.2.1
abbrev pe13{A0 A1 A2 A3 A4 A5 A6 A7 A8 A9 A10 A11 A12 A13 A14:Type}(x:A0×A1×A2×A3×A4×A5×A6×A7×A8×A9×A10×A11×A12×A13×A14):A13:=x.2.2.2.2.2.2.2.2.2.2.2.2.2.1
abbrev pe14{A0 A1 A2 A3 A4 A5 A6 A7 A8 A9 A10 A11 A12 A13 A14 A15:Type}(x:A0×A1×A2×A3×A4×A5×A6×A7×A8×A9×A10×A11×A12×A13×A14×A15):A14:=x.2.2.2.2.2.2.2.2.2.2.2.2.2.2.1
abbrev pf4{A0 A1 A2 A3 A4:Type}(x:A0×A1×A2×A3×A4):A4:=x.2.2.2.2
abbrev pf5{A0 A1 A2 A3 A4 A5:Type}(x:A0×A1×A2×A3×A4×A5):A5:=x.2.2.2.2.2
abbrev pf6{A0 A1 A2 A3 A4 A5 A6:Type}(x:A0×A1×A2×A3×A4×A5×A6):A6:=x.2.2.2.2.2.2
abbrev pf7{A0 A1 A2 A3 A4 A5 A6 A7:Type}(x:A0×A1×A2×A3×A4×A5×A6×A7):A7:=x.2.2.2.2.2.2.2
abbrev pf8{A0 A1 A2 A3 A4 A5 A6 A7 A8:Type}(x:A0×A1×A2×A3×A4×A5×A6×A7×A8):A8:=x.2.2.2.2.2.2.2.2
abbrev pf9{A0 A1 A2 A3 A4 A5 A6 A7 A8 A9:Type}(x:A0×A1×A2×A3×A4×A5×A6×A7×A8×A9):A9:=x.2.2.2.2.2.2.2.2.2
abbrev pf10{A0 A1 A2 A3 A4 A5 A6 A7 A8 A9 A10:Type}(x:A0×A1×A2×A3×A4×A5×A6×A7×A8×A9×A10):A10:=x.2.2.2.2.2.2.2.2.2.2
abbrev pf11{A0 A1 A2 A3 A4 A5 A6 A7 A8 A9 A10 A11:Type}(x:A0×A1×A2×A3×A4×A5×A6×A7×A8×A9×A10×A11):A11:=x.2.2.2.2.2.2.2.2.2.2.2
abbrev pf13{A0 A1 A2 A3 A4 A5 A6 A7 A8 A9 A10 A11 A12 A13:Type}(x:A0×A1×A2×A3×A4×A5×A6×A7×A8×A9×A10×A11×A12×A13):A13:=x.2.2.2.2.2.2.2.2.2.2.2.2.2
abbrev pf15{A0 A1 A2 A3 A4 A5 A6 A7 A8 A9 A10 A11 A12 A13 A14 A15:Type}(x:A0×A1×A2×A3×A4×A5×A6×A7×A8×A9×A10×A11×A12×A13×A14×A15):A15:=x.2.2.2.2.2.2.2.2.2.2.2.2.2.2.2
noncomputable section
def qp6:Shp:=⟨[(0, .d true az.ty)],[]⟩
abbrev qub:Ctx (az):=⟨51,tt,false,false,[],i9 [],jp [au _ 51 [] q0d (C:=(ByteArray×(List ByteArray)×Int×Int×(List af)×Int×Int×Int×Int×Int)) (S:=(Int×(List af))) (fun x=>((x.1.1,(pe3 x.1),(pe4 x.1),x.2.1.1,x.2.1.2.1,x.2.1.2.2.1,(pe3 x.2.1),x.2.2.1.1,x.2.2.1.2.2.1,(pe3 x.2.2.1)),((pe5 x.1),(pe3 x)))) q0c (CE:=(ByteArray×Int×(List af)×Int×Int×Int×Int×Int)) (E:=(List af)) (fun c e=>((c.1,(),(),()),((c.2.1,c.2.2.1,(pe3 c),(pe4 c),()),((pe5 c),(),(pe6 c),(pf7 c),()),e,()))) (fun c=>(c.1,(pe3 c),(pe4 c),(pe5 c),(pe6 c),(pe7 c),(pe8 c),(pf9 c))) (fun{R} c a nx dn rt=>qnc c.1 c.2.1 c.2.2.1 (pe3 c) (pe4 c) (pe5 c) (pe6 c) (pe7 c) (pe8 c) (pf9 c) a.1 a.2 nx dn rt)],ck 51 tt [] [.cell 4 24] qp6 (fun x=>x.1.1)⟩
theorem qt9:CtxM Try.prog qub:=jw fits mixed m0
theorem q3s:bc Try.prog qub 0 (lc 0 Try.f33 75):=lp rfl qt9 .z s0 (fun c a=>((c.1,(),(),c.2.1,c.2.2.1,a.1,()),(((pe3 c),(pe4 c),(pe5 c),(pe6 c),()),((pe7 c),(),(pe8 c),(pf9 c),()),a.2,()))) (fun y=>((y.1.1,y.2.1.1,y.2.1.2.1,y.2.1.2.2.1,(pe3 y.2.1),y.2.2.1.1,y.2.2.1.2.2.1,(pe3 y.2.2.1)),(pe3 y)))
abbrev qua:Mdl:=(ay (.cons (.d false .str) (.cons (.d false (.slice .str)) .nil)) [] [] 1 qp6 (B:=az) (fun b=>((b,()),(()))) (fun a=>qoe a.1.1 a.1.2.1))
theorem q0e:MdlOK Try.prog 33 qua:=jv Try.func33 rfl qt9 (.two .z (.two .z (.two (.two .z (.s 0)) .z))) (sC q3s s0)
def qnf:Shp:=⟨[qc7],[]⟩
abbrev q3z:Ctx (Bool):=⟨17,tt,false,false,[],i9 [],jp [],ck 17 tt [] [.tmp 2] qnf (fun x=>x.1.1)⟩
theorem q3y:CtxM Try.prog q3z:=jw fits mixed m0
abbrev qhu:Mdl:=(ay (.cons (.d false (.int .u8)) .nil) [] [] 1 qnf (B:=Bool) (fun b=>((b,()),(()))) (fun a=>qbn a.1.1))
theorem qkw:MdlOK Try.prog 119 qhu:=jv Try.func119 rfl q3y .z s0
def que:Shp:=⟨[qc7],[]⟩
abbrev q8j:Ctx (Bool):=⟨25,tt,false,false,[],i9 [(119,qhu)],jp [],ck 25 tt [] [.tmp 2] que (fun x=>x.1.1)⟩
theorem q8i:CtxM Try.prog q8j:=jw fits mixed (mC qkw m0)
abbrev qyc:Mdl:=(ay (.cons (.d false (.int .u8)) .nil) [] [] 1 que (B:=Bool) (fun b=>((b,()),(()))) (fun a=>ql1 a.1.1))
theorem q30:MdlOK Try.prog 120 qyc:=jv Try.func120 rfl q8i .z s0
def qne:Shp:=⟨[qc7],[]⟩
abbrev qqf:Ctx (Bool):=⟨29,tt,false,false,[],i9 [(119,qhu),(120,qyc)],jp [au _ 29 [] qya (C:=(ByteArray×Int)) (S:=Int) (fun x=>((x.1.1,x.1.2.1),x.1.2.2.1)) qx9 (CE:=Unit) (E:=Unit) (fun c e=>((()),(()))) (fun c=>()) (fun{R} c a nx dn rt=>si c.1 c.2 a nx dn rt)],ck 29 tt [] [.tmp 2] qne (fun x=>x.1.1)⟩
theorem qqd:CtxM Try.prog qqf:=jw fits mixed (mC qkw (mC q30 m0))
theorem q0n:bc Try.prog qqf 0 (lc 0 Try.f108 75):=lp rfl qqd .z s0 (fun c a=>((c.1,c.2,a,()),(()))) (fun y=>((),()))
abbrev qqe:Mdl:=(ay (.cons (.d false .str) .nil) [] [] 1 qne (B:=Bool) (fun b=>((b,()),(()))) (fun a=>qe7 a.1.1))
theorem qyb:MdlOK Try.prog 108 qqe:=jv Try.func108 rfl qqd (.two .z (.two .z (.two (.two .z (.s 0)) .z))) (sC q0n s0)
def qk4:Shp:=⟨[qc7],[]⟩
abbrev qnp:Ctx (Bool):=⟨36,tt,false,false,[],i9 [],jp [au _ 36 [] qvy (C:=(qL1×qL1×Int×Int×(List af)×Int×Int)) (S:=Int) (fun x=>((x.1.1,x.1.2.2.1,(pe3 x.1),x.2.1.1,x.2.1.2.1,x.2.1.2.2.1,(pe3 x.2.1)),(pe4 x.1))) qvx (CE:=Unit) (E:=Unit) (fun c e=>((()),(()))) (fun c=>()) (fun{R} c a nx dn rt=>np c.1 c.2.1 c.2.2.1 (pe3 c) (pe4 c) (pe5 c) (pf6 c) a nx dn rt)],ck 36 tt [] [.tmp 4] qk4 (fun x=>x.1.1)⟩
theorem qnn:CtxM Try.prog qnp:=jw fits mixed m0
theorem qyv:bc Try.prog qnp 0 (lc 0 Try.f109 37):=lp rfl qnn .z s0 (fun c a=>((c.1,(),c.2.1,c.2.2.1,a,()),(((pe3 c),(pe4 c),(pe5 c),(pf6 c),()),()))) (fun y=>((),()))
abbrev qno:Mdl:=(ay (.cons (.d false az.ty) (.cons (.d false qT1) .nil)) [] [] 1 qk4 (B:=Bool) (fun b=>((b,()),(()))) (fun a=>ls a.1.1 a.1.2.1))
theorem qvz:MdlOK Try.prog 109 qno:=jv Try.func109 rfl qnn (.two .z (.two (.two .z (.s 0)) .z)) (sC qyv s0)
def qnl:Shp:=⟨[qc7],[]⟩
abbrev qqm:Ctx (Bool):=⟨62,tt,false,false,[],i9 [(108,qqe),(109,qno)],jp [au _ 62 [] qyq (C:=((List af)×Int×Int×(List af)×Int×Int)) (S:=Int) (fun x=>((x.1.2.1,x.1.2.2.1,x.2.1.1,x.2.1.2.1,x.2.1.2.2.1,(pe3 x.2.1)),(pe3 x.1))) qyp (CE:=(Int×(List af)×Int×Int)) (E:=Unit) (fun c e=>(((),()),((c.1,c.2.1,c.2.2.1,c.2.2.2,()),()))) (fun c=>(c.2.2.1,(pe3 c),(pe4 c),(pf5 c))) (fun{R} c a nx dn rt=>yf c.1 c.2.1 c.2.2.1 (pe3 c) (pe4 c) (pf5 c) a nx dn rt)],ck 62 tt [] [.tmp 2] qnl (fun x=>x.1.1)⟩
theorem qql:CtxM Try.prog qqm:=jw fits mixed (mC qyb (mC qvz m0))
theorem q0p:bc Try.prog qqm 0 (lc 0 Try.f85 75):=lp rfl qql .z s0 (fun c a=>(((),c.1,c.2.1,a,()),((c.2.2.1,(pe3 c),(pe4 c),(pf5 c),()),()))) (fun y=>((y.2.1.1,y.2.1.2.1,y.2.1.2.2.1,(pe3 y.2.1)),()))
abbrev yg:Mdl:=(ay (.cons (.d false az.ty) .nil) [] [] 1 qnl (B:=Bool) (fun b=>((b,()),(()))) (fun a=>sk a.1.1))
theorem yh:MdlOK Try.prog 85 yg:=jv Try.func85 rfl qql (.two .z (.two .z (.two (.two .z (.s 0)) .z))) (sC q0p s0)
def y7:Shp:=⟨[qxg],[]⟩
abbrev zq:Ctx (Int):=⟨19,tt,false,false,[],i9 [],jp [au _ 19 [] qg0 (C:=(qL1×Int×Int)) (S:=Int) (fun x=>((x.1.1,x.1.2.1,x.1.2.2.1),(pe3 x.1))) qgz (CE:=Unit) (E:=Unit) (fun c e=>((()),(()))) (fun c=>()) (fun{R} c a nx dn rt=>kq c.1 c.2.1 c.2.2 a nx dn rt)],ck 19 tt [] [.tmp 4] y7 (fun x=>x.1.1)⟩
theorem zo:CtxM Try.prog zq:=jw fits mixed m0
theorem qh7:bc Try.prog zq 0 (lc 0 Try.f115 37):=lp rfl zo .z s0 (fun c a=>((c.1,c.2.1,c.2.2,a,()),(()))) (fun y=>((),()))
abbrev zp:Mdl:=(ay (.cons (.d false qT1) (.cons (.d false qT0) .nil)) [] [] 1 y7 (B:=Int) (fun b=>((b,()),(()))) (fun a=>sx a.1.1 a.1.2.1))
theorem qg1:MdlOK Try.prog 115 zp:=jv Try.func115 rfl zo (.two .z (.two (.two .z (.s 0)) .z)) (sC qh7 s0)
def ue:Shp:=⟨[qc7],[]⟩
abbrev qfr:Ctx (Bool):=⟨9,tt,false,false,[],i9 [(115,zp)],jp [],ck 9 tt [] [.tmp 4] ue (fun x=>x.1.1)⟩
theorem qfq:CtxM Try.prog qfr:=jw fits mixed (mC qg1 m0)
abbrev vf:Mdl:=(ay (.cons (.d false qT1) (.cons (.d false qT0) .nil)) [] [] 1 ue (B:=Bool) (fun b=>((b,()),(()))) (fun a=>ia a.1.1 a.1.2.1))
theorem qek:MdlOK Try.prog 100 vf:=jv Try.func100 rfl qfq .z s0
def qfb:Shp:=⟨[qc7],[]⟩
abbrev qtg:Ctx (Bool):=⟨8,tt,false,false,[],i9 [],jp [],ck 8 tt [] [.tmp 3] qfb (fun x=>x.1.1)⟩
theorem qtf:CtxM Try.prog qtg:=jw fits mixed m0
abbrev qgj:Mdl:=(ay (.cons (.d false qT0) (.cons (.rp false (.slice .bool)) .nil)) [] [] 1 qfb (B:=Bool) (fun b=>((b,()),(()))) (fun a=>v6 a.1.1 a.1.2.1))
theorem qoz:MdlOK Try.prog 116 qgj:=jv Try.func116 rfl qtf .z s0
def o8:Shp:=⟨[qxg],[]⟩
abbrev pi:Ctx (Int):=⟨19,tt,false,false,[],i9 [(116,qgj)],jp [au _ 19 [] zh (C:=(qL1×(List Bool)×Int)) (S:=Int) (fun x=>((x.1.1,x.1.2.1.1,x.1.2.2.1),(pe3 x.1))) zg (CE:=Unit) (E:=Unit) (fun c e=>((()),(()))) (fun c=>()) (fun{R} c a nx dn rt=>fk c.1 c.2.1 c.2.2 a nx dn rt)],ck 19 tt [] [.tmp 4] o8 (fun x=>x.1.1)⟩
theorem pg:CtxM Try.prog pi:=jw fits mixed (mC qoz m0)
theorem qah:bc Try.prog pi 0 (lc 0 Try.f110 37):=lp rfl pg .z s0 (fun c a=>((c.1,(c.2.1,()),c.2.2,a,()),(()))) (fun y=>((),()))
abbrev ph:Mdl:=(ay (.cons (.d false qT1) (.cons (.fn 116 (.cons (.rp false (.slice .bool)) .nil)) .nil)) [] [] 1 o8 (B:=Int) (fun b=>((b,()),(()))) (fun a=>ky a.1.1 a.1.2.1.1))
theorem zi:MdlOK Try.prog 110 ph:=jv Try.func110 rfl pg (.two .z (.two (.two .z (.s 0)) .z)) (sC qah s0)
def na:Shp:=⟨[qc7],[]⟩
abbrev y3:Ctx (Bool):=⟨9,tt,false,false,[],i9 [(110,ph)],jp [],ck 9 tt [] [.tmp 4] na (fun x=>x.1.1)⟩
theorem yz:CtxM Try.prog y3:=jw fits mixed (mC zi m0)
abbrev nz:Mdl:=(ay (.cons (.d false qT1) (.cons (.fn 116 (.cons (.rp false (.slice .bool)) .nil)) .nil)) [] [] 1 na (B:=Bool) (fun b=>((b,()),(()))) (fun a=>de a.1.1 a.1.2.1.1))
theorem wh:MdlOK Try.prog 86 nz:=jv Try.func86 rfl yz .z s0
def qi1:Shp:=⟨[jfg,(1, .own 1)],[qvd,qvd]⟩
abbrev yk:Ctx (((List Bool)×(List Bool))):=⟨69,tt,false,false,[],i9 [(86,nz)],jp [au _ 69 [] qta (C:=(Bool×Bool×(List af)×Int×Int×qL1×Int×Int×(List af)×Int×Int×(List Bool))) (S:=(Int×(List Bool))) (fun x=>((x.1.1,(pe4 x.1),(pe5 x.1),(pe6 x.1),(pe7 x.1),(pe8 x.1),(pe9 x.1),x.2.1.1,x.2.1.2.1,x.2.1.2.2.1,(pe3 x.2.1),(pe3 x)),((pe10 x.1),(pe4 x)))) qs9 (CE:=(Bool×Bool×(List af)×Int×Int×Int×(List af)×Int×Int×(List Bool))) (E:=(List Bool)) (fun c e=>((c.1,(),(),(),c.2.1,c.2.2.1,(pe3 c),(pe4 c),()),(((pe5 c),(pe6 c),(pe7 c),(pe8 c),()),((),()),(pf9 c),e,()))) (fun c=>(c.1,c.2.1,c.2.2.1,(pe3 c),(pe4 c),(pe7 c),(pe8 c),(pe9 c),(pe10 c),(pf11 c))) (fun{R} c a nx dn rt=>tm c.1 c.2.1 c.2.2.1 (pe3 c) (pe4 c) (pe5 c) (pe6 c) (pe7 c) (pe8 c) (pe9 c) (pe10 c) (pf11 c) a.1 a.2 nx dn rt),au _ 69 [] qtc (C:=(Bool×(List af)×Int×Int×(List af)×Int×Int)) (S:=(Bool×Int×(List Bool)×(List Bool))) (fun x=>((x.1.1,(pe5 x.1),(pe6 x.1),x.2.1.1,x.2.1.2.1,x.2.1.2.2.1,(pe3 x.2.1)),((pe4 x.1),(pe7 x.1),(pe3 x),(pe4 x)))) qtb (CE:=(Bool×Int×(List af)×Int×Int)) (E:=(Bool×(List Bool)×(List Bool))) (fun c e=>((c.1,(),(),(),e.1,()),((c.2.1,c.2.2.1,(pe3 c),(pf4 c),()),((),()),e.2.1,e.2.2,()))) (fun c=>(c.1,(pe3 c),(pe4 c),(pe5 c),(pf6 c))) (fun{R} c a nx dn rt=>g8 c.1 c.2.1 c.2.2.1 (pe3 c) (pe4 c) (pe5 c) (pf6 c) a.1 a.2.1 a.2.2.1 a.2.2.2 nx dn rt),au _ 69 [] qte (C:=(Bool×Int×(List af)×Int×Int)) (S:=(Bool×(List Bool)×(List Bool))) (fun x=>((x.1.1,x.2.1.1,x.2.1.2.1,x.2.1.2.2.1,(pe3 x.2.1)),((pe4 x.1),(pe3 x),(pe4 x)))) qtd (CE:=Unit) (E:=((List Bool)×(List Bool))) (fun c e=>(((),(),()),(((),()),e.1,e.2,()))) (fun c=>()) (fun{R} c a nx dn rt=>qad c.1 c.2.1 c.2.2.1 (pe3 c) (pf4 c) a.1 a.2.1 a.2.2 nx dn rt)],ck 69 tt [] [.tmp 6, .tmp 7] qi1 (fun x=>(x.2.1,x.2.2.1))⟩
theorem yj:CtxM Try.prog yk:=jw fits mixed (mC wh m0)
theorem qv0:bc Try.prog yk 0 (lc 4 Try.f101 41838231):=lp rfl yj .z s0 (fun c a=>((c.1,(),(),(),c.2.1,c.2.2.1,(pe3 c),(pe4 c),(pe5 c),(pe6 c),a.1,()),(((pe7 c),(pe8 c),(pe9 c),(pe10 c),()),((),()),(pf11 c),a.2,()))) (fun y=>((y.1.1,(pe4 y.1),(pe5 y.1),(pe6 y.1),(pe7 y.1),y.2.1.1,y.2.1.2.1,y.2.1.2.2.1,(pe3 y.2.1),(pe3 y)),(pe4 y)))
theorem qv1:bc Try.prog yk 1 (lc 2 Try.f101 9879):=lp rfl yj (.two .z (.two .z (.two (.one (.two .z (.two (.d [0,1,0,4,3,31] [] []) (.two .z (.two .z (.two .z (.two .z (.s 0)))))))) .z))) (sC qv0 s0) (fun c a=>((c.1,(),(),(),a.1,c.2.1,c.2.2.1,a.2.1,()),(((pe3 c),(pe4 c),(pe5 c),(pf6 c),()),((),()),a.2.2.1,a.2.2.2,()))) (fun y=>((y.1.1,y.2.1.1,y.2.1.2.1,y.2.1.2.2.1,(pe3 y.2.1)),((pe4 y.1),(pe3 y),(pe4 y))))
theorem qv2:bc Try.prog yk 2 (lc 0 Try.f101 151):=lp rfl yj (.two .z (.one (.two .z (.two .z (.s 1))))) (sC qv1 s0) (fun c a=>((c.1,(),(),(),a.1,()),((c.2.1,c.2.2.1,(pe3 c),(pf4 c),()),((),()),a.2.1,a.2.2,()))) (fun y=>((),(y.2.2.1,(pe3 y))))
abbrev qk5:Mdl:=(ay (.cons (.d false az.ty) (.cons (.d false qT0) (.cons (.d false .bool) .nil))) [] [] 2 qi1 (B:=((List Bool)×(List Bool))) (fun b=>(((),(),()),(b.1,b.2,()))) (fun a=>oi a.1.1 a.1.2.1 a.1.2.2.1))
theorem qth:MdlOK Try.prog 101 qk5:=jv Try.func101 rfl yj (.two .z (.two (.d [0,1,3,0,8,24,56,0,135,511] [8] []) (.two .z (.two (.two .z (.s 2)) .z)))) (sC qv2 s0)
def vi:Shp:=⟨[qxg],[]⟩
abbrev xg:Ctx (Int):=⟨19,tt,false,false,[],i9 [],jp [au _ 19 [] qer (C:=((List Bool)×Bool×Int)) (S:=Int) (fun x=>((x.1.1,x.1.2.1,x.1.2.2.1),(pe3 x.1))) qeq (CE:=Unit) (E:=Unit) (fun c e=>((()),(()))) (fun c=>()) (fun{R} c a nx dn rt=>jb c.1 c.2.1 c.2.2 a nx dn rt)],ck 19 tt [] [.tmp 4] vi (fun x=>x.1.1)⟩
theorem xe:CtxM Try.prog xg:=jw fits mixed m0
theorem qfs:bc Try.prog xg 0 (lc 0 Try.f117 37):=lp rfl xe .z s0 (fun c a=>((c.1,c.2.1,c.2.2,a,()),(()))) (fun y=>((),()))
abbrev xf:Mdl:=(ay (.cons (.d false (.slice .bool)) (.cons (.d false .bool) .nil)) [] [] 1 vi (B:=Int) (fun b=>((b,()),(()))) (fun a=>qd a.1.1 a.1.2.1))
theorem qes:MdlOK Try.prog 117 xf:=jv Try.func117 rfl xe (.two .z (.two (.two .z (.s 0)) .z)) (sC qfs s0)
def rn:Shp:=⟨[qc7],[]⟩
abbrev qej:Ctx (Bool):=⟨9,tt,false,false,[],i9 [(117,xf)],jp [],ck 9 tt [] [.tmp 4] rn (fun x=>x.1.1)⟩
theorem qei:CtxM Try.prog qej:=jw fits mixed (mC qes m0)
abbrev sr:Mdl:=(ay (.cons (.d false (.slice .bool)) (.cons (.d false .bool) .nil)) [] [] 1 rn (B:=Bool) (fun b=>((b,()),(()))) (fun a=>cq a.1.1 a.1.2.1))
theorem qcf:MdlOK Try.prog 102 sr:=jv Try.func102 rfl qei .z s0
def qge:Shp:=⟨[qc7],[]⟩
abbrev qb7:Ctx (Bool):=⟨65,tt,false,false,[],i9 [(85,yg),(100,vf),(101,qk5),(102,sr)],jp [au _ 65 [] qqq (C:=((List af)×Int×Int×(List af)×Int×Int)) (S:=Int) (fun x=>((x.1.2.1,x.1.2.2.1,x.2.1.1,x.2.1.2.1,x.2.1.2.2.1,(pe3 x.2.1)),(pe3 x.1))) qqp (CE:=(Int×(List af)×Int×Int)) (E:=Unit) (fun c e=>(((),()),((c.1,c.2.1,c.2.2.1,c.2.2.2,()),()))) (fun c=>(c.2.2.1,(pe3 c),(pe4 c),(pf5 c))) (fun{R} c a nx dn rt=>ri c.1 c.2.1 c.2.2.1 (pe3 c) (pe4 c) (pf5 c) a nx dn rt),au _ 65 [] qqs (C:=((List Bool)×Int×Int×(List af)×Int×Int)) (S:=Int) (fun x=>((x.1.2.1,x.1.2.2.1,x.2.1.1,x.2.1.2.1,x.2.1.2.2.1,(pe3 x.2.1)),(pe3 x.1))) qqr (CE:=Unit) (E:=Unit) (fun c e=>((()),(()))) (fun c=>()) (fun{R} c a nx dn rt=>rj c.1 c.2.1 c.2.2.1 (pe3 c) (pe4 c) (pf5 c) a nx dn rt)],ck 65 tt [] [.tmp 2] qge (fun x=>x.1.1)⟩
theorem qb6:CtxM Try.prog qb7:=jw fits mixed (mC yh (mC qek (mC qth (mC qcf m0))))
theorem qs4:bc Try.prog qb7 1 (lc 2 Try.f76 151):=lp rfl qb6 .z s0 (fun c a=>(((),c.1,c.2.1,a,()),((c.2.2.1,(pe3 c),(pe4 c),(pf5 c),()),()))) (fun y=>((),()))
theorem qs3:bc Try.prog qb7 0 (lc 0 Try.f76 75):=lp rfl qb6 .z s0 (fun c a=>(((),c.1,c.2.1,a,()),((c.2.2.1,(pe3 c),(pe4 c),(pf5 c),()),()))) (fun y=>((y.2.1.1,y.2.1.2.1,y.2.1.2.2.1,(pe3 y.2.1)),()))
abbrev qix:Mdl:=(ay (.cons (.d false az.ty) .nil) [] [] 1 qge (B:=Bool) (fun b=>((b,()),(()))) (fun a=>eb a.1.1))
theorem qqt:MdlOK Try.prog 76 qix:=jv Try.func76 rfl qb6 (.two .z (.two .z (.two (.two .z (.s 0)) (.two (.two .z (.s 1)) .z)))) (sC qs3 (sC qs4 s0))
def qkh:Shp:=⟨[qxg],[]⟩
abbrev q0j:Ctx (Int):=⟨13,tt,false,false,[],i9 [(76,qix)],jp [],ck 13 tt [] [.tmp 4] qkh (fun x=>x.1.1)⟩
theorem q0i:CtxM Try.prog q0j:=jw fits mixed (mC qqt m0)
abbrev qfm:Mdl:=(ay (.cons (.d false az.ty) (.cons (.d false az.ty) .nil)) [] [] 1 qkh (B:=Int) (fun b=>((b,()),(()))) (fun a=>x9 a.1.1 a.1.2.1))
theorem qim:MdlOK Try.prog 43 qfm:=jv Try.func43 rfl q0i .z s0
def qun:Shp:=⟨[jfg,q5d],[qmd]⟩
abbrev q8s:Ctx ((Int×qL1)):=⟨17,tt,false,false,[],i9 [(85,yg)],jp [],ck 17 tt [] [.tmp 4, .tmp 5] qun (fun x=>(x.1.2.1,x.2.1))⟩
theorem q8r:CtxM Try.prog q8s:=jw fits mixed (mC yh m0)
abbrev qoy:Mdl:=(ay (.cons (.d false az.ty) (.cons (.d false qT0) .nil)) [] [] 2 qun (B:=(Int×qL1)) (fun b=>(((),b.1,()),(b.2,()))) (fun a=>qgi a.1.1 a.1.2.1))
theorem qqx:MdlOK Try.prog 104 qoy:=jv Try.func104 rfl q8r .z s0
def qiw:Shp:=⟨[jtt,q5d],[]⟩
abbrev qyl:Ctx ((qL1×Int)):=⟨10,tt,false,false,[],i9 [(104,qoy)],jp [],ck 10 tt [] [.tmp 2, .tmp 3] qiw (fun x=>(x.1.1,x.1.2.1))⟩
theorem qyk:CtxM Try.prog qyl:=jw fits mixed (mC qqx m0)
abbrev qea:Mdl:=(ay (.cons (.d false az.ty) .nil) [] [] 2 qiw (B:=(qL1×Int)) (fun b=>((b.1,b.2,()),(()))) (fun a=>u4 a.1.1))
theorem qgb:MdlOK Try.prog 79 qea:=jv Try.func79 rfl qyk .z s0
def qfa:Shp:=⟨[qc7],[]⟩
abbrev qs8:Ctx (Bool):=⟨9,tt,false,false,[],i9 [],jp [],ck 9 tt [] [.tmp 2] qfa (fun x=>x.1.1)⟩
theorem qs7:CtxM Try.prog qs8:=jw fits mixed m0
abbrev qgh:Mdl:=(ay (.cons (.d false qT0) .nil) [] [] 1 qfa (B:=Bool) (fun b=>((b,()),(()))) (fun a=>qb9 a.1.1))
theorem qox:MdlOK Try.prog 87 qgh:=jv Try.func87 rfl qs7 .z s0
def po:Shp:=⟨[qxg],[]⟩
abbrev qu:Ctx (Int):=⟨19,tt,false,false,[],i9 [(87,qgh)],jp [au _ 19 [] qam (C:=(qL1×Int)) (S:=Int) (fun x=>((x.1.1,x.1.2.2.1),(pe3 x.1))) qal (CE:=Unit) (E:=Unit) (fun c e=>((()),(()))) (fun c=>()) (fun{R} c a nx dn rt=>f9 c.1 c.2 a nx dn rt)],ck 19 tt [] [.tmp 4] po (fun x=>x.1.1)⟩
theorem qs:CtxM Try.prog qu:=jw fits mixed (mC qox m0)
theorem qbw:bc Try.prog qu 0 (lc 0 Try.f110 37):=lp rfl qs .z s0 (fun c a=>((c.1,(()),c.2,a,()),(()))) (fun y=>((),()))
abbrev qt:Mdl:=(ay (.cons (.d false qT1) (.cons (.fn 87 .nil) .nil)) [] [] 1 po (B:=Int) (fun b=>((b,()),(()))) (fun a=>lx a.1.1))
theorem qan:MdlOK Try.prog 110 qt:=jv Try.func110 rfl qs (.two .z (.two (.two .z (.s 0)) .z)) (sC qbw s0)
def n5:Shp:=⟨[qc7],[]⟩
abbrev zc:Ctx (Bool):=⟨9,tt,false,false,[],i9 [(110,qt)],jp [],ck 9 tt [] [.tmp 4] n5 (fun x=>x.1.1)⟩
theorem zb:CtxM Try.prog zc:=jw fits mixed (mC qan m0)
abbrev om:Mdl:=(ay (.cons (.d false qT1) (.cons (.fn 87 .nil) .nil)) [] [] 1 n5 (B:=Bool) (fun b=>((b,()),(()))) (fun a=>fy a.1.1))
theorem xn:MdlOK Try.prog 86 om:=jv Try.func86 rfl zb .z s0
def qiz:Shp:=⟨[qc7],[]⟩
abbrev qyu:Ctx (Bool):=⟨19,tt,false,false,[],i9 [(85,yg),(86,om)],jp [],ck 19 tt [] [.tmp 4] qiz (fun x=>x.1.1)⟩
theorem qyt:CtxM Try.prog qyu:=jw fits mixed (mC yh (mC xn m0))
abbrev yi:Mdl:=(ay (.cons (.d false az.ty) (.cons (.d false qT1) .nil)) [] [] 1 qiz (B:=Bool) (fun b=>((b,()),(()))) (fun a=>ma a.1.1 a.1.2.1))
theorem qac:MdlOK Try.prog 49 yi:=jv Try.func49 rfl qyt .z s0
def u6:Shp:=⟨[jfg],[qmd]⟩
abbrev qgt:Ctx (qL1):=⟨8,tt,false,false,[],i9 [],jp [],ck 8 tt [] [.tmp 2] u6 (fun x=>x.2.1)⟩
theorem qgr:CtxM Try.prog qgt:=jw fits mixed m0
abbrev qgs:Mdl:=(ay (.cons (.nl false (.d false qT1)) .nil) [] [] 1 u6 (B:=qL1) (fun b=>(((),()),(b,()))) (fun a=>yv a.1.1))
theorem qeo:MdlOK Try.prog 50 qgs:=jv Try.func50 rfl qgr .z s0
def oj:Shp:=⟨[jfg],[qmd]⟩
abbrev qgw:Ctx (qL1):=⟨8,tt,false,false,[],i9 [],jp [],ck 8 tt [] [.tmp 2] oj (fun x=>x.2.1)⟩
theorem qgu:CtxM Try.prog qgw:=jw fits mixed m0
abbrev qgv:Mdl:=(ay (.cons (.nl true (.d false qT1)) .nil) [] [] 1 oj (B:=qL1) (fun b=>(((),()),(b,()))) (fun a=>lu a.1.1))
theorem qep:MdlOK Try.prog 50 qgv:=jv Try.func50 rfl qgu .z s0
abbrev jg:Mdl:=(ay (.cons (.d false qT1) .nil) [] [] 1 oj (fun(b:qL1)=>(((),()),(b,()))) (fun(a:((qL1×Unit)×(Unit)))=>cm a.1.1))
theorem kj:MdlOK Try.prog 50 jg:=by
 refine jb2 (jgy _ _) qeo qep (by kernel_rfl) (fun a b h=>⟨?_,h⟩);obtain⟨⟨xs,u1⟩,u2⟩:=a;cases xs with
 |nil=>exact h
 |cons x l=>
  have e:decide ((((x::l).length:Nat):Int)=0)=false:=decide_eq_false (by simp only[List.length_cons];omega);simp only[cm,lu]at h;simp only[yv,e,cond_false];exact h
def qe9:Shp:=⟨[qc7],[]⟩
abbrev qs6:Ctx (Bool):=⟨9,tt,false,false,[],i9 [],jp [],ck 9 tt [] [.tmp 3] qe9 (fun x=>x.1.1)⟩
theorem qs5:CtxM Try.prog qs6:=jw fits mixed m0
abbrev qgf:Mdl:=(ay (.cons (.d false qT0) (.cons (.rp false qT1) .nil)) [] [] 1 qe9 (B:=Bool) (fun b=>((b,()),(()))) (fun a=>qb8 a.1.1 a.1.2.1))
theorem qow:MdlOK Try.prog 111 qgf:=jv Try.func111 rfl qs5 .z s0
def o6:Shp:=⟨[qxg],[]⟩
abbrev pf:Ctx (Int):=⟨19,tt,false,false,[],i9 [(111,qgf)],jp [au _ 19 [] ze (C:=(qL1×qL1×Int)) (S:=Int) (fun x=>((x.1.1,x.1.2.1.1,x.1.2.2.1),(pe3 x.1))) zd (CE:=Unit) (E:=Unit) (fun c e=>((()),(()))) (fun c=>()) (fun{R} c a nx dn rt=>fj c.1 c.2.1 c.2.2 a nx dn rt)],ck 19 tt [] [.tmp 4] o6 (fun x=>x.1.1)⟩
theorem pd:CtxM Try.prog pf:=jw fits mixed (mC qow m0)
theorem qag:bc Try.prog pf 0 (lc 0 Try.f110 37):=lp rfl pd .z s0 (fun c a=>((c.1,(c.2.1,()),c.2.2,a,()),(()))) (fun y=>((),()))
abbrev pe:Mdl:=(ay (.cons (.d false qT1) (.cons (.fn 111 (.cons (.rp false qT1) .nil)) .nil)) [] [] 1 o6 (B:=Int) (fun b=>((b,()),(()))) (fun a=>kw a.1.1 a.1.2.1.1))
theorem zf:MdlOK Try.prog 110 pe:=jv Try.func110 rfl pd (.two .z (.two (.two .z (.s 0)) .z)) (sC qag s0)
def m9:Shp:=⟨[qc7],[]⟩
abbrev yx:Ctx (Bool):=⟨9,tt,false,false,[],i9 [(110,pe)],jp [],ck 9 tt [] [.tmp 4] m9 (fun x=>x.1.1)⟩
theorem yw:CtxM Try.prog yx:=jw fits mixed (mC zf m0)
abbrev ny:Mdl:=(ay (.cons (.d false qT1) (.cons (.fn 111 (.cons (.rp false qT1) .nil)) .nil)) [] [] 1 m9 (B:=Bool) (fun b=>((b,()),(()))) (fun a=>i4 a.1.1 a.1.2.1.1))
theorem wg:MdlOK Try.prog 86 ny:=jv Try.func86 rfl yw .z s0
def qiy:Shp:=⟨[qc7],[]⟩
abbrev qys:Ctx (Bool):=⟨10,tt,false,false,[],i9 [(86,ny)],jp [],ck 10 tt [] [.tmp 4] qiy (fun x=>x.1.1)⟩
theorem qyr:CtxM Try.prog qys:=jw fits mixed (mC wg m0)
abbrev qeb:Mdl:=(ay (.cons (.d false af.ty) (.cons (.d false qT1) .nil)) [] [] 1 qiy (B:=Bool) (fun b=>((b,()),(()))) (fun a=>u5 a.1.1 a.1.2.1))
theorem qgg:MdlOK Try.prog 88 qeb:=jv Try.func88 rfl qyr .z s0
def qby:Shp:=⟨[qxg],[]⟩
abbrev qcw:Ctx (Int):=⟨25,tt,false,false,[],i9 [],jp [au _ 25 [] qjk (C:=qL1) (S:=(Int×Int)) (fun x=>(x.1.1,(x.1.2.1,x.1.2.2.1))) qjj (CE:=Unit) (E:=Int) (fun c e=>((e,()),(()))) (fun c=>()) (fun{R} c a nx dn rt=>m3 c a.1 a.2 nx dn rt)],ck 25 tt [] [.tmp 2] qby (fun x=>x.1.1)⟩
theorem qcu:CtxM Try.prog qcw:=jw fits mixed m0
theorem qlp:bc Try.prog qcw 0 (lc 0 Try.f89 151):=lp rfl qcu .z s0 (fun c a=>((c,a.1,a.2,()),(()))) (fun y=>((),y.1.1))
abbrev qcv:Mdl:=(ay (.cons (.d false qT1) .nil) [] [] 1 qby (B:=Int) (fun b=>((b,()),(()))) (fun a=>qe a.1.1))
theorem qjl:MdlOK Try.prog 89 qcv:=jv Try.func89 rfl qcu (.two .z (.two .z (.two .z (.two (.two .z (.s 0)) .z)))) (sC qlp s0)
def qqw:Shp:=⟨[jfg,q5d],[qmd]⟩
abbrev qk2:Ctx ((Int×qL1)):=⟨66,tt,false,false,[],i9 [(88,qeb),(50,jg),(89,qcv)],jp [au _ 66 [] q0u (C:=(qL1×Int×ByteArray×qL1×qL1)) (S:=(Int×qL1)) (fun x=>((x.1.2.2.1,(pe3 x.1),x.2.1.1,x.2.1.2.1,x.2.1.2.2.1),((pe4 x.1),x.2.2.1))) q0t (CE:=(ByteArray×qL1×qL1)) (E:=qL1) (fun c e=>(((),(),()),((c.1,c.2.1,c.2.2,()),e,()))) (fun c=>(c.2.2.1,(pe3 c),(pf4 c))) (fun{R} c a nx dn rt=>qay c.1 c.2.1 c.2.2.1 (pe3 c) (pf4 c) a.1 a.2 nx dn rt),au _ 66 [] q0w (C:=(qL1×Int)) (S:=(Int×qL1)) (fun x=>((x.1.2.1,x.1.2.2.1),((pe3 x.1),x.2.1))) q0v (CE:=Unit) (E:=qL1) (fun c e=>(((),()),(e,()))) (fun c=>()) (fun{R} c a nx dn rt=>qaz c.1 c.2 a.1 a.2 nx dn rt)],ck 66 tt [] [.tmp 6, .tmp 7] qqw (fun x=>(x.1.2.1,x.2.1))⟩
theorem qk0:CtxM Try.prog qk2:=jw fits mixed (mC qgg (mC kj (mC qjl m0)))
theorem q4d:bc Try.prog qk2 1 (lc 2 Try.f51 1215):=lp rfl qk0 .z s0 (fun c a=>(((),c.1,c.2,a.1,()),(a.2,()))) (fun y=>((),y.2.1))
theorem q4c:bc Try.prog qk2 0 (lc 0 Try.f51 607):=lp rfl qk0 .z s0 (fun c a=>(((),(),c.1,c.2.1,a.1,()),((c.2.2.1,(pe3 c),(pf4 c),()),a.2,()))) (fun y=>((y.2.1.1,y.2.1.2.1,y.2.1.2.2.1),y.2.2.1))
abbrev qk1:Mdl:=(ay (.cons (.d false az.ty) (.cons (.d false qT1) (.cons (.d false qT0) .nil))) [] [] 2 qqw (B:=(Int×qL1)) (fun b=>(((),b.1,()),(b.2,()))) (fun a=>oh a.1.1 a.1.2.1 a.1.2.2.1))
theorem qnm:MdlOK Try.prog 51 qk1:=jv Try.func51 rfl qk0 (.two .z (.two .z (.two .z (.two .z (.two .z (.two (.two .z (.s 0)) (.two (.two .z (.s 1)) .z))))))) (sC q4c (sC q4d s0))
def quj:Shp:=⟨[jtt,q5d,q48],[]⟩
abbrev qyo:Ctx ((qL1×Int×Int)):=⟨48,tt,false,false,[],i9 [(49,yi),(50,jg),(51,qk1)],jp [au _ 48 [] q39 (C:=(qL1×qL1×Int×Int×(List af)×Int×Int)) (S:=(qL1×Int)) (fun x=>((x.1.1,(pe3 x.1),(pe4 x.1),x.2.1.1,x.2.1.2.1,x.2.1.2.2.1,(pe3 x.2.1)),(x.1.2.2.1,(pe5 x.1)))) q38 (CE:=qL1) (E:=qL1) (fun c e=>((c,e,()),(()))) (fun c=>c.1) (fun{R} c a nx dn rt=>ye c.1 c.2.1 c.2.2.1 (pe3 c) (pe4 c) (pe5 c) (pf6 c) a.1 a.2 nx dn rt)],ck 48 tt [] [.tmp 6, .tmp 7, .tmp 8] quj (fun x=>(x.1.1,x.1.2.1,x.1.2.2.1))⟩
theorem qym:CtxM Try.prog qyo:=jw fits mixed (mC qac (mC kj (mC qnm m0)))
theorem q60:bc Try.prog qyo 0 (lc 1 Try.f14 151):=lp rfl qym .z s0 (fun c a=>((c.1,(),a.1,c.2.1,c.2.2.1,a.2,()),(((pe3 c),(pe4 c),(pe5 c),(pf6 c),()),()))) (fun y=>(y.1.1,y.1.2.1))
abbrev qyn:Mdl:=(ay (.cons (.d false az.ty) (.cons (.d false qT1) (.cons (.d false qT1) .nil))) [] [] 3 quj (B:=(qL1×Int×Int)) (fun b=>((b.1,b.2.1,b.2.2,()),(()))) (fun a=>ql3 a.1.1 a.1.2.1 a.1.2.2.1))
theorem q4a:MdlOK Try.prog 14 qyn:=jv Try.func14 rfl qym (.two .z (.two .z (.two .z (.two (.two .z (.s 0)) .z)))) (sC q60 s0)
def qqo:Shp:=⟨[jub,q5d],[q49]⟩
abbrev qum:Ctx ((Int×(List ByteArray))):=⟨47,tt,false,false,[],i9 [(85,yg)],jp [au _ 47 [] q0r (C:=(qL1×Int×Int×(List af)×Int×Int)) (S:=(Int×(List ByteArray))) (fun x=>((x.1.2.2.1,(pe3 x.1),x.2.1.1,x.2.1.2.1,x.2.1.2.2.1,(pe3 x.2.1)),((pe4 x.1),x.2.2.1))) q0q (CE:=Unit) (E:=(List ByteArray)) (fun c e=>(((),()),(e,()))) (fun c=>()) (fun{R} c a nx dn rt=>qax c.1 c.2.1 c.2.2.1 (pe3 c) (pe4 c) (pf5 c) a.1 a.2 nx dn rt)],ck 47 tt [] [.tmp 4, .tmp 5] qqo (fun x=>(x.1.2.1,x.2.1))⟩
theorem quk:CtxM Try.prog qum:=jw fits mixed (mC yh m0)
theorem q4b:bc Try.prog qum 0 (lc 1 Try.f80 151):=lp rfl quk .z s0 (fun c a=>(((),(),c.1,c.2.1,a.1,()),((c.2.2.1,(pe3 c),(pe4 c),(pf5 c),()),a.2,()))) (fun y=>((),y.2.1))
abbrev qul:Mdl:=(ay (.cons (.d false az.ty) (.cons (.d false qT1) .nil)) [] [] 2 qqo (B:=(Int×(List ByteArray))) (fun b=>(((),b.1,()),(b.2,()))) (fun a=>qhx a.1.1 a.1.2.1))
theorem q0s:MdlOK Try.prog 80 qul:=jv Try.func80 rfl quk (.two .z (.two .z (.two .z (.two (.two .z (.s 0)) .z)))) (sC q4b s0)
def qe1:Shp:=⟨[jtt,jww,jmr],[q49]⟩
abbrev qsh:Ctx ((qL1×Bool×(List ByteArray))):=⟨37,tt,false,false,[],i9 [(79,qea),(14,qyn),(80,qul)],jp [],ck 37 tt [] [.tmp 4, .tmp 5, .tmp 6] qe1 (fun x=>(x.1.1,x.1.2.2.1,x.2.1))⟩
theorem qsg:CtxM Try.prog qsh:=jw fits mixed (mC qgb (mC q4a (mC q0s m0)))
abbrev z7:Mdl:=(ay (.cons (.d false az.ty) (.cons (.d false qT1) .nil)) [] [] 3 qe1 (B:=(qL1×Bool×(List ByteArray))) (fun b=>((b.1,(),b.2.1,()),(b.2.2,()))) (fun a=>nm a.1.1 a.1.2.1))
theorem qdz:MdlOK Try.prog 45 z7:=jv Try.func45 rfl qsg .z s0
def qil:Shp:=⟨[jtt,jww,q48],[q49]⟩
abbrev qx3:Ctx ((qL1×Int×(List ByteArray))):=⟨40,tt,false,false,[],i9 [(43,qfm),(45,z7)],jp [],ck 40 tt [] [.tmp 8, .tmp 9, .tmp 10] qil (fun x=>(x.1.1,x.1.2.2.1,x.2.1))⟩
theorem qx2:CtxM Try.prog qx3:=jw fits mixed (mC qim (mC qdz m0))
abbrev qdu:Mdl:=(ay (.cons (.d false az.ty) (.cons (.d false az.ty) (.cons (.d false qT1) (.cons (.d false qT0) .nil)))) [] [] 3 qil (B:=(qL1×Int×(List ByteArray))) (fun b=>((b.1,(),b.2.1,()),(b.2.2,()))) (fun a=>jq a.1.1 a.1.2.1 a.1.2.2.1 (pe3 a.1)))
theorem qf4:MdlOK Try.prog 58 qdu:=jv Try.func58 rfl qx2 .z s0
def q0h:Shp:=⟨[jtv],[]⟩
abbrev qc0:Mdl:=(ay (.cons (.d false qT1) .nil) [] [] 1 q0h (B:=ByteArray) (fun b=>((b,()),(()))) (fun a=>iv a.1.1))
theorem qd4:MdlOK Try.prog 93 qc0:=jgh _
def qqk:Shp:=⟨[jfg,q5d],[qmd]⟩
abbrev q6z:Ctx ((Int×qL1)):=⟨18,tt,false,false,[],i9 [(49,yi),(51,qk1)],jp [],ck 18 tt [] [.tmp 6, .tmp 7] qqk (fun x=>(x.1.2.1,x.2.1))⟩
theorem q6y:CtxM Try.prog q6z:=jw fits mixed (mC qac (mC qnm m0))
abbrev quh:Mdl:=(ay (.cons (.d false az.ty) (.cons (.d false qT1) (.cons (.d false qT0) .nil))) [] [] 2 qqk (B:=(Int×qL1)) (fun b=>(((),b.1,()),(b.2,()))) (fun a=>qab a.1.1 a.1.2.1 a.1.2.2.1))
theorem q0o:MdlOK Try.prog 16 quh:=jv Try.func16 rfl q6y .z s0
def qis:Shp:=⟨[jub],[jj8]⟩
abbrev qku:Ctx ((List ag)):=⟨32,tt,false,false,[],i9 [(16,quh)],jp [au _ 32 [] qsu (C:=(qL1×Int×Int×(List af)×Int×Int)) (S:=(Int×(List ag))) (fun x=>((x.1.1,(pe3 x.1),x.2.1.1,x.2.1.2.1,x.2.1.2.2.1,(pe3 x.2.1)),((pe4 x.1),x.2.2.1))) qst (CE:=Unit) (E:=(List ag)) (fun c e=>(((),()),(e,()))) (fun c=>()) (fun{R} c a nx dn rt=>tf c.1 c.2.1 c.2.2.1 (pe3 c) (pe4 c) (pf5 c) a.1 a.2 nx dn rt)],ck 32 tt [] [.tmp 4] qis (fun x=>x.2.1)⟩
theorem qkt:CtxM Try.prog qku:=jw fits mixed (mC q0o m0)
theorem qvv:bc Try.prog qku 0 (lc 0 Try.f94 75):=lp rfl qkt .z s0 (fun c a=>((c.1,(),(),c.2.1,a.1,()),((c.2.2.1,(pe3 c),(pe4 c),(pf5 c),()),a.2,()))) (fun y=>((),y.2.1))
abbrev sg:Mdl:=(ay (.cons (.d false az.ty) (.cons (.d false qT1) .nil)) [] [] 1 qis (B:=(List ag)) (fun b=>(((),()),(b,()))) (fun a=>c9 a.1.1 a.1.2.1))
theorem th:MdlOK Try.prog 94 sg:=jv Try.func94 rfl qkt (.two .z (.two .z (.two (.two .z (.s 0)) .z))) (sC qvv s0)
def qco:Shp:=⟨[jfg,jw4],[qu5]⟩
abbrev wd:Ctx ((Bool×(List ae))):=⟨109,tt,false,true,[],i9 [(79,qea),(93,qc0),(94,sg),(50,jg)],jp [au _ 109 [] qkk (C:=((List ByteArray)×Int×Int×(List ag)×Int×Int×(List af)×Int×Int×Int×qL1×qL1)) (S:=(Int×(List ae)×(List (ByteArray×Bool)))) (fun x=>((x.1.1,x.1.2.1,(pe5 x.1),(pe7 x.1),(pe8 x.1),x.2.1.1,x.2.1.2.1,x.2.1.2.2.1,(pe3 x.2.1),(pe4 x).1,(pe4 x).2.1,(pe4 x).2.2.1),((pe9 x.1),x.2.2.1,(pe3 x)))) qkj (CE:=((List ByteArray)×Int×Int×Int×(List af)×Int×Int)) (E:=((List ae)×(List (ByteArray×Bool)))) (fun c e=>((c.1,c.2.1,(),(),(),c.2.2.1,()),(((pe3 c),(pe4 c),(pe5 c),(pf6 c),()),e.1,e.2,()))) (fun c=>(c.1,c.2.1,c.2.2.1,(pe5 c),(pe6 c),(pe7 c),(pe8 c))) (fun{R} c a nx dn rt=>cw c.1 c.2.1 c.2.2.1 (pe3 c) (pe4 c) (pe5 c) (pe6 c) (pe7 c) (pe8 c) (pe9 c) (pe10 c) (pf11 c) a.1 a.2.1 a.2.2 nx dn rt),au _ 109 [] qkm (C:=((List ByteArray)×Int×Int×(List af)×Int×Int)) (S:=(Int×(List ae)×(List (ByteArray×Bool)))) (fun x=>((x.1.1,x.1.2.1,x.2.1.1,x.2.1.2.1,x.2.1.2.2.1,(pe3 x.2.1)),((pe5 x.1),x.2.2.1,(pe3 x)))) qkl (CE:=Unit) (E:=(List ae)) (fun c e=>(((),()),(e,()))) (fun c=>()) (fun{R} c a nx dn rt=>j1 c.1 c.2.1 c.2.2.1 (pe3 c) (pe4 c) (pf5 c) a.1 a.2.1 a.2.2 nx dn rt)],ck 109 tt [] [.tmp 6, .tmp 7] qco (fun x=>(x.1.2.1,x.2.1))⟩
theorem wb:CtxM Try.prog wd:=jw fits mixed (mC qgb (mC qd4 (mC th (mC kj m0))))
theorem qm2:bc Try.prog wd 0 (lc 2 Try.f59 39215):=lp rfl wb (.two .z (.two .z (.two (.one (.two .z (.two (.d [0,1,0,4,0,16,60,124,252,3,1023] [] []) (.two .z (.two .z (.two .z (.two .z (.two .z (.d [0,0,0,4,0,16,48,0,128,384,1008,2046,4094,8191,16383] [10,11,12,13,14] []))))))))) .z))) s0 (fun c a=>((c.1,c.2.1,(),(),(),c.2.2.1,(),(pe3 c),(pe4 c),a.1,()),(((pe5 c),(pe6 c),(pe7 c),(pe8 c),()),a.2.1,a.2.2,((pe9 c),(pe10 c),(pf11 c),()),()))) (fun y=>((y.1.1,y.1.2.1,(pe5 y.1),y.2.1.1,y.2.1.2.1,y.2.1.2.2.1,(pe3 y.2.1)),(y.2.2.1,(pe3 y))))
theorem qm3:bc Try.prog wd 1 (lc 0 Try.f59 303):=lp rfl wb (.two .z (.two (.one (.two .z (.two .z (.s 0)))) .z)) (sC qm2 s0) (fun c a=>((c.1,c.2.1,(),(),(),a.1,()),((c.2.2.1,(pe3 c),(pe4 c),(pf5 c),()),a.2.1,a.2.2,()))) (fun y=>((),y.2.1))
abbrev wc:Mdl:=(ay (.cons (.d false az.ty) (.cons (.d false (.slice .str)) (.cons (.d false qT0) .nil))) [] [] 2 qco (B:=(Bool×(List ae))) (fun b=>(((),b.1,()),(b.2,()))) (fun a=>kh a.1.1 a.1.2.1 a.1.2.2.1))
theorem qbm:MdlOK Try.prog 59 wc:=jv Try.func59 rfl wb (.two .z (.two .z (.two .z (.two .z (.two (.two .z (.s 1)) .z))))) (sC qm3 s0)
def qf2:Shp:=⟨[qc7],[]⟩
abbrev qvp:Ctx (Bool):=⟨9,tt,false,false,[],i9 [],jp [],ck 9 tt [] [.tmp 3] qf2 (fun x=>x.1.1)⟩
theorem qvo:CtxM Try.prog qvp:=jw fits mixed m0
abbrev qb3:Mdl:=(ay (.cons (.d false ae.ty) (.cons (.rp false (.slice .str)) .nil)) [] [] 1 qf2 (B:=Bool) (fun b=>((b,()),(()))) (fun a=>x4 a.1.1 a.1.2.1))
theorem qez:MdlOK Try.prog 66 qb3:=jv Try.func66 rfl qvo .z s0
def ea:Shp:=⟨[qxg],[]⟩
abbrev ep:Ctx (Int):=⟨19,tt,false,false,[],i9 [(66,qb3)],jp [au _ 19 [] j7 (C:=((List ae)×(List ByteArray)×Int)) (S:=Int) (fun x=>((x.1.1,x.1.2.1.1,x.1.2.2.1),(pe3 x.1))) j6 (CE:=Unit) (E:=Unit) (fun c e=>((()),(()))) (fun c=>()) (fun{R} c a nx dn rt=>br c.1 c.2.1 c.2.2 a nx dn rt)],ck 19 tt [] [.tmp 4] ea (fun x=>x.1.1)⟩
theorem en:CtxM Try.prog ep:=jw fits mixed (mC qez m0)
theorem kd:bc Try.prog ep 0 (lc 0 Try.f60 37):=lp rfl en .z s0 (fun c a=>((c.1,(c.2.1,()),c.2.2,a,()),(()))) (fun y=>((),()))
abbrev eo:Mdl:=(ay (.cons (.d false (.slice ae.ty)) (.cons (.fn 66 (.cons (.rp false (.slice .str)) .nil)) .nil)) [] [] 1 ea (B:=Int) (fun b=>((b,()),(()))) (fun a=>b7 a.1.1 a.1.2.1.1))
theorem j8:MdlOK Try.prog 60 eo:=jv Try.func60 rfl en (.two .z (.two (.two .z (.s 0)) .z)) (sC kd s0)
def dj:Shp:=⟨[jfg],[qu5]⟩
abbrev dz:Ctx ((List ae)):=⟨42,tt,false,false,[false],i9 [(60,eo),(66,qb3)],jp [au _ 42 [false] jt (C:=(List ByteArray)) (S:=(Int×Int×(List ae))) (fun x=>(x.1.2.1.1,(x.1.2.2.1,(pe3 x.1),x.2.1))) js (CE:=Unit) (E:=(Int×(List ae))) (fun c e=>(((),e.1,()),(e.2,()))) (fun c=>()) (fun{R} c a nx dn rt=>bg c a.1 a.2.1 a.2.2 nx dn rt)],ck 42 tt [false] [.tmp 4] dj (fun x=>x.2.1)⟩
theorem dx:CtxM Try.prog dz:=jw fits mixed (mC j8 (mC qez m0))
theorem j2:bc Try.prog dz 0 (lc 0 Try.f65 151):=lp rfl dx .z s0 (fun c a=>(((),(c,()),a.1,a.2.1,()),(a.2.2,()))) (fun y=>((),(y.1.2.1,y.2.1)))
abbrev dy:Mdl:=(ay (.cons (.own 0) (.cons (.fn 66 (.cons (.rp false (.slice .str)) .nil)) .nil)) [qu5] [false] 1 dj (B:=(List ae)) (fun b=>(((),()),(b,()))) (fun a=>bt a.1.2.1.1 a.2.1))
theorem ju:MdlOK Try.prog 65 dy:=jv Try.func65 rfl dx (.two .z (.two .z (.two .z (.two (.two .z (.s 0)) .z)))) (sC j2 s0)
def qe5:Shp:=⟨[],[qls, .cs 38 1 1 (.cons (.own 3) .nil),qpc,qfg]⟩
abbrev qsr:Ctx (((List (ByteArray×Bool))×qL2)):=⟨16,tt,false,false,[true,true,true,false],i9 [(93,qc0)],jp [],ck 16 tt [true,true,true,false] [] qe5 (fun x=>((pe3 x),(pe4 x)))⟩
theorem qsq:CtxM Try.prog qsr:=jw fits mixed (mC qd4 m0)
abbrev qf6:Mdl:=(ay (.cons (.d true qT1) (.cons (.ptr 0) (.cons (.ptr 1) .nil))) [qls, .cs 38 1 1 (.cons (.own 3) .nil),qpc,qfg] [true,true,true,false] 0 qe5 (B:=((List (ByteArray×Bool))×qL2)) (fun b=>((()),(((),()),((),()),b.1,b.2,()))) (fun a=>qk a.1.1 (pe3 a) (pe4 a)))
theorem qos:MdlOK Try.prog 95 qf6:=jv Try.func95 rfl qsq (.two (.d [0,0,2,7,15] [] []) (.two (.two (.d [0,0,2,7] [3] []) .z) .z)) s0
def qiq:Shp:=⟨[(0, .own 1),jw4],[qfg,qfg]⟩
abbrev yb:Ctx ((Bool×qL2×qL2)):=⟨61,tt,false,false,[true],i9 [(95,qf6),(94,sg)],jp [au _ 61 [true] qsl (C:=(Int×Int×qL2×Int×(List af)×Int×Int)) (S:=(Int×qL2×(List (ByteArray×Bool)))) (fun x=>((x.1.1,(pe5 x.1),x.2.1,x.2.2.1.1,x.2.2.1.2.1,x.2.2.1.2.2.1,(pe3 x.2.2.1)),((pe6 x.1),(pe5 x),(pe6 x)))) qsk (CE:=(Int×qL2×Int×(List af)×Int×Int)) (E:=(qL2×(List (ByteArray×Bool)))) (fun c e=>((c.1,(),(),((),(),()),()),(c.2.1,(c.2.2.1,(pe3 c),(pe4 c),(pf5 c),()),((),()),((),()),e.1,e.2,()))) (fun c=>(c.1,c.2.2.1,(pe3 c),(pe4 c),(pe5 c),(pf6 c))) (fun{R} c a nx dn rt=>td c.1 c.2.1 c.2.2.1 (pe3 c) (pe4 c) (pe5 c) (pf6 c) a.1 a.2.1 a.2.2 nx dn rt),au _ 61 [true] qsn (C:=(Int×Int×(List ag)×Int×qL2×Int×(List af)×Int×Int)) (S:=(Int×qL2×(List (ByteArray×Bool)))) (fun x=>((x.1.1,(pe4 x.1),(pe5 x.1),(pe6 x.1),x.2.1,x.2.2.1.1,x.2.2.1.2.1,x.2.2.1.2.2.1,(pe3 x.2.2.1)),((pe7 x.1),(pe5 x),(pe6 x)))) qsm (CE:=(Int×Int×qL2×Int×(List af)×Int×Int)) (E:=(qL2×(List (ByteArray×Bool)))) (fun c e=>((c.1,(),(),((),(),()),c.2.1,()),(c.2.2.1,((pe3 c),(pe4 c),(pe5 c),(pf6 c),()),((),()),((),()),e.1,e.2,()))) (fun c=>(c.1,c.2.1,(pe4 c),(pe5 c),(pe6 c),(pe7 c),(pf8 c))) (fun{R} c a nx dn rt=>te c.1 c.2.1 c.2.2.1 (pe3 c) (pe4 c) (pe5 c) (pe6 c) (pe7 c) (pf8 c) a.1 a.2.1 a.2.2 nx dn rt),au _ 61 [true] qsp (C:=(Int×qL2×Int×(List af)×Int×Int)) (S:=(Int×qL2×(List (ByteArray×Bool)))) (fun x=>((x.1.1,x.2.1,x.2.2.1.1,x.2.2.1.2.1,x.2.2.1.2.2.1,(pe3 x.2.2.1)),((pe4 x.1),(pe5 x),(pe6 x)))) qso (CE:=(Int×qL2)) (E:=qL2) (fun c e=>((c.1,(),()),(c.2,((),()),e,()))) (fun c=>(c.1,c.2.1)) (fun{R} c a nx dn rt=>oz c.1 c.2.1 c.2.2.1 (pe3 c) (pe4 c) (pf5 c) a.1 a.2.1 a.2.2 nx dn rt)],ck 61 tt [true] [.tmp 6, .tmp 7] qiq (fun x=>(x.1.2.1,x.2.1,x.2.2.1))⟩
theorem ya:CtxM Try.prog yb:=jw fits mixed (mC qos (mC th m0))
theorem qvt:bc Try.prog yb 1 (lc 4 Try.f67 37471):=lp rfl ya .z s0 (fun c a=>((c.1,(),(),((),(),()),c.2.1,c.2.2.1,(pe3 c),a.1,()),((pe4 c),((pe5 c),(pe6 c),(pe7 c),(pf8 c),()),((),()),((),()),a.2.1,a.2.2,()))) (fun y=>((y.1.1,(pe4 y.1),y.2.1,y.2.2.1.1,y.2.2.1.2.1,y.2.2.1.2.2.1,(pe3 y.2.2.1)),((pe5 y),(pe6 y))))
theorem qvu:bc Try.prog yb 2 (lc 2 Try.f67 607):=lp rfl ya (.two .z (.two (.one (.two (.d [0,0,0,6,14,31,63,0] [] []) (.s 1))) .z)) (sC qvt s0) (fun c a=>((c.1,(),(),((),(),()),a.1,()),(c.2.1,(c.2.2.1,(pe3 c),(pe4 c),(pf5 c),()),((),()),((),()),a.2.1,a.2.2,()))) (fun y=>((y.1.1,y.2.1),(pe3 y)))
theorem qvs:bc Try.prog yb 0 (lc 0 Try.f67 303):=lp rfl ya .z s0 (fun c a=>((c.1,(),(),((),(),()),(),c.2.1,a.1,()),(c.2.2.1,((pe3 c),(pe4 c),(pe5 c),(pf6 c),()),((),()),((),()),a.2.1,a.2.2,()))) (fun y=>((y.1.1,y.2.1,y.2.2.1.1,y.2.2.1.2.1,y.2.2.1.2.2.1,(pe3 y.2.2.1)),((pe5 y),(pe6 y))))
abbrev qkn:Mdl:=(ay (.cons (.d false az.ty) (.cons (.own 0) (.cons (.d false qT0) .nil))) [qfg] [true] 2 qiq (B:=(Bool×qL2×qL2)) (fun b=>(((),b.1,()),(b.2.1,b.2.2,()))) (fun a=>uz a.1.1 a.1.2.2.1 a.2.1))
theorem qss:MdlOK Try.prog 67 qkn:=jv Try.func67 rfl ya (.two .z (.two .z (.two .z (.two .z (.two (.two .z (.s 0)) (.two (.two .z (.s 2)) (.two (.d [0,0,2,0,14,1,63] [] []) .z))))))) (sC qvs (sC qvu s0))
def qki:Shp:=⟨[jtv],[]⟩
abbrev q0l:Ctx (ByteArray):=⟨11,tt,false,false,[],i9 [(93,qc0)],jp [],ck 11 tt [] [.tmp 4] qki (fun x=>x.1.1)⟩
theorem q0k:CtxM Try.prog q0l:=jw fits mixed (mC qd4 m0)
abbrev qz:Mdl:=(ay (.cons (.d false qT1) (.cons (.d false qT1) .nil)) [] [] 1 qki (B:=ByteArray) (fun b=>((b,()),(()))) (fun a=>jr a.1.1 a.1.2.1))
theorem qj:MdlOK Try.prog 81 qz:=jv Try.func81 rfl q0k .z s0
def qnj:Shp:=⟨[jfg,q5d],[qmd]⟩
abbrev q37:Ctx ((Int×qL1)):=⟨10,tt,false,false,[],i9 [(104,qoy)],jp [],ck 10 tt [] [.tmp 2, .tmp 3] qnj (fun x=>(x.1.2.1,x.2.1))⟩
theorem q36:CtxM Try.prog q37:=jw fits mixed (mC qqx m0)
abbrev qhw:Mdl:=(ay (.cons (.d false az.ty) .nil) [] [] 2 qnj (B:=(Int×qL1)) (fun b=>(((),b.1,()),(b.2,()))) (fun a=>sj a.1.1))
theorem qkz:MdlOK Try.prog 105 qhw:=jv Try.func105 rfl q36 .z s0
def y5:Shp:=⟨[qc7],[]⟩
abbrev zn:Ctx (Bool):=⟨26,tt,false,false,[],i9 [],jp [au _ 26 [] qgy (C:=(qL1×qL1×Int)) (S:=Int) (fun x=>((x.1.1,x.1.2.1,x.1.2.2.1),(pe3 x.1))) qgx (CE:=Unit) (E:=Unit) (fun c e=>((()),(()))) (fun c=>()) (fun{R} c a nx dn rt=>ib c.1 c.2.1 c.2.2 a nx dn rt)],ck 26 tt [] [.tmp 4] y5 (fun x=>x.1.1)⟩
theorem zm:CtxM Try.prog zn:=jw fits mixed m0
theorem qh6:bc Try.prog zn 0 (lc 0 Try.f19 75):=lp rfl zm (.two .z (.two .z (.two (.one (.two .z (.two (.d [0,0,3,7,0,0,48,112,255] [] []) .z))) .z))) s0 (fun c a=>((c.1,c.2.1,c.2.2,a,()),(()))) (fun y=>((),()))
abbrev eu:Mdl:=(ay (.cons (.d false qT1) (.cons (.d false qT1) .nil)) [] [] 1 y5 (B:=Bool) (fun b=>((b,()),(()))) (fun a=>bp a.1.1 a.1.2.1))
theorem fb:MdlOK Try.prog 19 eu:=jv Try.func19 rfl zm (.two .z (.two .z (.two (.two .z (.s 0)) .z))) (sC qh6 s0)
def qiv:Shp:=⟨[jub,q5d],[qmd]⟩
abbrev qky:Ctx ((Int×qL1)):=⟨30,tt,false,false,[],i9 [(49,yi),(88,qeb)],jp [au _ 30 [] qs2 (C:=(qL1×(List af)×Int)) (S:=(Int×qL1)) (fun x=>((x.1.1,x.1.2.2.1,(pe3 x.1)),((pe4 x.1),x.2.1))) qs1 (CE:=Unit) (E:=qL1) (fun c e=>(((),()),(e,()))) (fun c=>()) (fun{R} c a nx dn rt=>o3 c.1 c.2.1 c.2.2 a.1 a.2 nx dn rt)],ck 30 tt [] [.tmp 4, .tmp 5] qiv (fun x=>(x.1.2.1,x.2.1))⟩
theorem qkx:CtxM Try.prog qky:=jw fits mixed (mC qac (mC qgg m0))
theorem qvw:bc Try.prog qky 0 (lc 0 Try.f103 151):=lp rfl qkx .z s0 (fun c a=>((c.1,(),c.2.1,c.2.2,a.1,()),(a.2,()))) (fun y=>((),y.2.1))
abbrev yd:Mdl:=(ay (.cons (.d false az.ty) (.cons (.d false qT1) .nil)) [] [] 2 qiv (B:=(Int×qL1)) (fun b=>(((),b.1,()),(b.2,()))) (fun a=>l9 a.1.1 a.1.2.1))
theorem qaa:MdlOK Try.prog 103 yd:=jv Try.func103 rfl qkx (.two .z (.two .z (.two .z (.two (.two .z (.s 0)) .z)))) (sC qvw s0)
def qbj:Shp:=⟨[qc7],[qve,qpc]⟩
abbrev qmm:Ctx ((Bool×(List (ByteArray×Bool)))):=⟨11,tt,false,false,[true,true],i9 [(81,qz)],jp [],ck 11 tt [true,true] [.tmp 5] qbj (fun x=>(x.1.1,x.2.2.1))⟩
theorem qml:CtxM Try.prog qmm:=jw fits mixed (mC qj m0)
abbrev uj:Mdl:=(ay (.cons (.d false qT1) (.cons (.d false qT1) (.cons (.ptr 0) .nil))) [qve,qpc] [true,true] 1 qbj (B:=(Bool×(List (ByteArray×Bool)))) (fun b=>((b.1,()),(((),()),b.2,()))) (fun a=>mu a.1.1 a.1.2.1 a.2.2.1))
theorem zk:MdlOK Try.prog 96 uj:=jv Try.func96 rfl qml (.two .z (.two (.d [0,0,0,6,15,31] [] []) .z)) s0
def qbl:Shp:=⟨[qc7],[qr5,qls,qpc]⟩
abbrev qmr:Ctx ((Bool×(List (ByteArray×Bool)))):=⟨24,tt,false,false,[true,true,true],i9 [(96,uj)],jp [],ck 24 tt [true,true,true] [.tmp 6] qbl (fun x=>(x.1.1,(pe3 x)))⟩
theorem qmq:CtxM Try.prog qmr:=jw fits mixed (mC zk m0)
abbrev qcm:Mdl:=(ay (.cons (.d false ag.ty) (.cons (.rp false az.ty) (.cons (.rp false .str) (.cons (.ptr 0) (.cons (.rp false ag.ty) .nil))))) [qr5,qls,qpc] [true,true,true] 1 qbl (B:=(Bool×(List (ByteArray×Bool)))) (fun b=>((b.1,()),((((),()),()),((),()),b.2,()))) (fun a=>pt a.1.1 a.1.2.1 a.1.2.2.1 (pe4 a.1) (pe3 a)))
theorem qjh:MdlOK Try.prog 107 qcm:=jv Try.func107 rfl qmq (.two .z (.two (.d [0,1,0,4,15,31,63,0,255,511,1023,1023,3071,1023,9215,32767,65535,131071] [15,16,17] []) .z)) s0
def fg:Shp:=⟨[qxg],[qr5,qls,qpc]⟩
abbrev fu:Ctx ((Int×(List (ByteArray×Bool)))):=⟨19,tt,false,false,[true,true,true],i9 [(107,qcm)],jp [au _ 19 [true,true,true] l5 (C:=((List ag)×az×ByteArray×ag×Int)) (S:=(Int×(List (ByteArray×Bool)))) (fun x=>((x.1.1,x.1.2.1.1,x.1.2.1.2.1,(pe3 x.1.2.1),x.1.2.2.1),((pe3 x.1),(pe3 x)))) l4 (CE:=Unit) (E:=(List (ByteArray×Bool))) (fun c e=>((()),((((),()),()),((),()),e,()))) (fun c=>()) (fun{R} c a nx dn rt=>b9 c.1 c.2.1 c.2.2.1 (pe3 c) (pf4 c) a.1 a.2 nx dn rt)],ck 19 tt [true,true,true] [.tmp 4] fg (fun x=>(x.1.1,(pe3 x)))⟩
theorem fp:CtxM Try.prog fu:=jw fits mixed (mC qjh m0)
theorem mq:bc Try.prog fu 0 (lc 0 Try.f118 37):=lp rfl fp .z s0 (fun c a=>((c.1,(c.2.1,c.2.2.1,(),(pe3 c),()),(pf4 c),a.1,()),((((),()),()),((),()),a.2,()))) (fun y=>((),(pe3 y)))
abbrev fq:Mdl:=(ay (.cons (.d false (.slice ag.ty)) (.cons (.fn 107 (.cons (.rp false az.ty) (.cons (.rp false .str) (.cons (.ptr 0) (.cons (.rp false ag.ty) .nil))))) .nil)) [qr5,qls,qpc] [true,true,true] 1 fg (B:=(Int×(List (ByteArray×Bool)))) (fun b=>((b.1,()),((((),()),()),((),()),b.2,()))) (fun a=>c7 a.1.1 a.1.2.1.1 a.1.2.1.2.1 (pe3 a.1.2.1) (pe3 a)))
theorem l6:MdlOK Try.prog 118 fq:=jv Try.func118 rfl fp (.two .z (.two (.two .z (.s 0)) .z)) (sC mq s0)
def ee:Shp:=⟨[qc7],[qr5,qls,qpc]⟩
abbrev lf:Ctx ((Bool×(List (ByteArray×Bool)))):=⟨9,tt,false,false,[true,true,true],i9 [(118,fq)],jp [],ck 9 tt [true,true,true] [.tmp 4] ee (fun x=>(x.1.1,(pe3 x)))⟩
theorem ld:CtxM Try.prog lf:=jw fits mixed (mC l6 m0)
abbrev er:Mdl:=(ay (.cons (.d false (.slice ag.ty)) (.cons (.fn 107 (.cons (.rp false az.ty) (.cons (.rp false .str) (.cons (.ptr 0) (.cons (.rp false ag.ty) .nil))))) .nil)) [qr5,qls,qpc] [true,true,true] 1 ee (B:=(Bool×(List (ByteArray×Bool)))) (fun b=>((b.1,()),((((),()),()),((),()),b.2,()))) (fun a=>a8 a.1.1 a.1.2.1.1 a.1.2.1.2.1 (pe3 a.1.2.1) (pe3 a)))
theorem kb:MdlOK Try.prog 106 er:=jv Try.func106 rfl ld .z s0
def qd3:Shp:=⟨[qc7],[qve,qpc]⟩
abbrev x8:Ctx ((Bool×(List (ByteArray×Bool)))):=⟨85,tt,false,false,[true,true],i9 [(105,qhw),(19,eu),(94,sg),(103,yd),(96,uj),(106,er)],jp [au _ 85 [true,true] qmy (C:=(qL1×(List ag)×(List ag)×Int×Int×(List af)×Int×Int×Int×(List af)×Int×Int)) (S:=(Int×(List (ByteArray×Bool)))) (fun x=>((x.1.1,(pe4 x.1),(pe5 x.1),(pe6 x.1),(pe3 x).1,(pe3 x).2.1,(pe3 x).2.2.1,(pe3 (pe3 x)),(pe4 x).1,(pe4 x).2.1,(pe4 x).2.2.1,(pe3 (pe4 x))),((pe7 x.1),x.2.2.1))) qmx (CE:=Unit) (E:=(List (ByteArray×Bool))) (fun c e=>((()),(((),()),e,()))) (fun c=>()) (fun{R} c a nx dn rt=>iq c.1 c.2.1 c.2.2.1 (pe3 c) (pe4 c) (pe5 c) (pe6 c) (pe7 c) (pe8 c) (pe9 c) (pe10 c) (pf11 c) a.1 a.2 nx dn rt),qj0 _ 85 [true,true] qm0 (A:=(qL1×qL1×(List (ByteArray×Bool))×Int×(List af)×Int×Int×Int×(List af)×Int×Int)) (fun x=>(x.1.1,x.1.2.1,x.2.2.1,(pe3 x).1,(pe3 x).2.1,(pe3 x).2.2.1,(pe3 (pe3 x)),(pe4 x).1,(pe4 x).2.1,(pe4 x).2.2.1,(pe3 (pe4 x)))) qmz (CE:=Unit) (E:=Unit) (fun c e=>((()),(()))) (fun c=>()) (fun{R} c dn rt=>ul c.1 c.2.1 c.2.2.1 (pe3 c) (pe4 c) (pe5 c) (pe6 c) (pe7 c) (pe8 c) (pe9 c) (pf10 c) dn rt)],ck 85 tt [true,true] [.tmp 10] qd3 (fun x=>(x.1.1,x.2.2.1))⟩
theorem x7:CtxM Try.prog x8:=jw fits mixed (mC qkz (mC fb (mC th (mC qaa (mC zk (mC kb m0))))))
theorem qop:bc Try.prog x8 0 (lc 0 Try.f84 4863):=lp rfl x7 .z s0 (fun c a=>((c.1,(),(),(),c.2.1,c.2.2.1,(pe3 c),a.1,()),(((),()),a.2,((pe4 c),(pe5 c),(pe6 c),(pe7 c),()),((pe8 c),(pe9 c),(pe10 c),(pf11 c),()),(((),()),()),()))) (fun y=>((),y.2.2.1))
theorem qoq:bc Try.prog x8 1 (jc Try.f84 31):=jn rfl x7 (.two .z (.two .z (.two .z (.two .z (.two (.two .z (.s 0)) .z))))) (sC qop s0) (fun c=>((c.1,c.2.1,(),(),(),()),(((),()),c.2.2.1,((pe3 c),(pe4 c),(pe5 c),(pe6 c),()),((pe7 c),(pe8 c),(pe9 c),(pf10 c),()),(((),()),()),()))) (fun y=>((),()))
abbrev qe3:Mdl:=(ay (.cons (.d false az.ty) (.cons (.d false az.ty) (.cons (.d false qT1) (.cons (.d false qT1) (.cons (.fn 96 (.cons (.ptr 0) .nil)) .nil))))) [qve,qpc] [true,true] 1 qd3 (B:=(Bool×(List (ByteArray×Bool)))) (fun b=>((b.1,()),(((),()),b.2,()))) (fun a=>tc a.1.1 a.1.2.1 a.1.2.2.1 (pe3 a.1) a.2.2.1))
theorem qm1:MdlOK Try.prog 84 qe3:=jv Try.func84 rfl x7 (.two .z (.two .z (.two .z (.two .z (.s 1))))) (sC qoq s0)
def w9:Shp:=⟨[qc7],[qr5,qls,qpc]⟩
abbrev qht:Ctx ((Bool×(List (ByteArray×Bool)))):=⟨21,tt,false,false,[true,true,true],i9 [(84,qe3),(81,qz)],jp [],ck 21 tt [true,true,true] [.tmp 6] w9 (fun x=>(x.1.1,(pe3 x)))⟩
theorem qhs:CtxM Try.prog qht:=jw fits mixed (mC qm1 (mC qj m0))
abbrev pq:Mdl:=(ay (.cons (.d false ab.ty) (.cons (.rp false az.ty) (.cons (.rp false az.ty) (.cons (.ptr 0) (.cons (.ptr 1) .nil))))) [qr5,qls,qpc] [true,true,true] 1 w9 (B:=(Bool×(List (ByteArray×Bool)))) (fun b=>((b.1,()),((((),()),()),((),()),b.2,()))) (fun a=>jf a.1.1 a.1.2.1 a.1.2.2.1 (pe3 a)))
theorem uy:MdlOK Try.prog 98 pq:=jv Try.func98 rfl qhs (.two .z (.two .z (.two (.d [0,0,2,0,8,30,63] [6] []) .z))) s0
def lm:Shp:=⟨[qxg],[qr5,qls,qpc]⟩
abbrev mn:Ctx ((Int×(List (ByteArray×Bool)))):=⟨19,tt,false,false,[true,true,true],i9 [(98,pq)],jp [au _ 19 [true,true,true] ua (C:=((List ab)×az×az×Int)) (S:=(Int×(List (ByteArray×Bool)))) (fun x=>((x.1.1,x.1.2.1.1,x.1.2.1.2.1,x.1.2.2.1),((pe3 x.1),(pe3 x)))) t8 (CE:=Unit) (E:=(List (ByteArray×Bool))) (fun c e=>((()),((((),()),()),((),()),e,()))) (fun c=>()) (fun{R} c a nx dn rt=>ca c.1 c.2.1 c.2.2.1 c.2.2.2 a.1 a.2 nx dn rt)],ck 19 tt [true,true,true] [.tmp 4] lm (fun x=>(x.1.1,(pe3 x)))⟩
theorem mj:CtxM Try.prog mn:=jw fits mixed (mC uy m0)
theorem uq:bc Try.prog mn 0 (lc 0 Try.f73 37):=lp rfl mj .z s0 (fun c a=>((c.1,(c.2.1,c.2.2.1,(),(),()),c.2.2.2,a.1,()),((((),()),()),((),()),a.2,()))) (fun y=>((),(pe3 y)))
abbrev mm:Mdl:=(ay (.cons (.d false (.slice ab.ty)) (.cons (.fn 98 (.cons (.rp false az.ty) (.cons (.rp false az.ty) (.cons (.ptr 0) (.cons (.ptr 1) .nil))))) .nil)) [qr5,qls,qpc] [true,true,true] 1 lm (B:=(Int×(List (ByteArray×Bool)))) (fun b=>((b.1,()),((((),()),()),((),()),b.2,()))) (fun a=>gv a.1.1 a.1.2.1.1 a.1.2.1.2.1 (pe3 a)))
theorem ub:MdlOK Try.prog 73 mm:=jv Try.func73 rfl mj (.two .z (.two (.two .z (.s 0)) .z)) (sC uq s0)
def ko:Shp:=⟨[jfg],[qpv,q78,jco,qpc]⟩
abbrev li:Ctx (((List ab)×(List (ByteArray×Bool)))):=⟨42,tt,false,false,[false,true,true,true],i9 [(73,mm),(98,pq)],jp [au _ 42 [false,true,true,true] su (C:=(az×az)) (S:=(Int×Int×(List ab)×(List (ByteArray×Bool)))) (fun x=>((x.1.2.1.1,x.1.2.1.2.1),(x.1.2.2.1,(pe3 x.1),x.2.1,(pe4 x)))) ss (CE:=Unit) (E:=(Int×(List ab)×(List (ByteArray×Bool)))) (fun c e=>(((),e.1,()),(e.2.1,(((),()),()),((),()),e.2.2,()))) (fun c=>()) (fun{R} c a nx dn rt=>cn c.1 c.2 a.1 a.2.1 a.2.2.1 a.2.2.2 nx dn rt)],ck 42 tt [false,true,true,true] [.tmp 4] ko (fun x=>(x.2.1,(pe4 x)))⟩
theorem lg:CtxM Try.prog li:=jw fits mixed (mC ub (mC uy m0))
theorem tx:bc Try.prog li 0 (lc 0 Try.f97 151):=lp rfl lg .z s0 (fun c a=>(((),(c.1,c.2,(),(),()),a.1,a.2.1,()),(a.2.2.1,(((),()),()),((),()),a.2.2.2,()))) (fun y=>((),(y.1.2.1,y.2.1,(pe4 y))))
abbrev lh:Mdl:=(ay (.cons (.own 0) (.cons (.fn 98 (.cons (.rp false az.ty) (.cons (.rp false az.ty) (.cons (.ptr 1) (.cons (.ptr 2) .nil))))) .nil)) [qpv,q78,jco,qpc] [false,true,true,true] 1 ko (B:=((List ab)×(List (ByteArray×Bool)))) (fun b=>(((),()),(b.1,(((),()),()),((),()),b.2,()))) (fun a=>cx a.1.2.1.1 a.1.2.1.2.1 a.2.1 (pe4 a)))
theorem sw:MdlOK Try.prog 97 lh:=jv Try.func97 rfl lg (.two .z (.two .z (.two .z (.two (.two .z (.s 0)) .z)))) (sC tx s0)
def qdy:Shp:=⟨[(0, .own 2)],[qfg,qfg,qpv]⟩
abbrev rf:Ctx ((qL2×qL2×(List ab))):=⟨55,tt,false,false,[true,true],i9 [(81,qz),(97,lh)],jp [au _ 55 [true,true] qmg (C:=(qL1×Int×Int×Int×qL2×qL2×Int×(List af)×Int×Int×Int×(List af)×Int×Int)) (S:=(Int×(List ab)×(List (ByteArray×Bool)))) (fun x=>(((pe5 x.1),(pe7 x.1),(pe8 x.1),(pe10 x.1),x.2.1,x.2.2.1,(pe3 x).1,(pe3 x).2.1,(pe3 x).2.2.1,(pe3 (pe3 x)),(pe4 x).1,(pe4 x).2.1,(pe4 x).2.2.1,(pe3 (pe4 x))),((pe11 x.1),(pe5 x),(pe7 x)))) qmf (CE:=(Int×Int×qL2×qL2×Int×(List af)×Int×Int×Int×(List af)×Int×Int)) (E:=((List ab)×(List (ByteArray×Bool)))) (fun c e=>(((),(),(),(),(),(),c.1,c.2.1,()),(c.2.2.1,(pe3 c),((pe4 c),(pe5 c),(pe6 c),(pe7 c),()),((pe8 c),(pe9 c),(pe10 c),(pf11 c),()),e.1,((),()),e.2,()))) (fun c=>(c.2.1,c.2.2.1,(pe4 c),(pe5 c),(pe6 c),(pe7 c),(pe8 c),(pe9 c),(pe10 c),(pe11 c),(pe12 c),(pf13 c))) (fun{R} c a nx dn rt=>ou c.1 c.2.1 c.2.2.1 (pe3 c) (pe4 c) (pe5 c) (pe6 c) (pe7 c) (pe8 c) (pe9 c) (pe10 c) (pe11 c) (pe12 c) (pf13 c) a.1 a.2.1 a.2.2 nx dn rt),au _ 55 [true,true] qmi (C:=(Int×qL2×qL2×Int×(List af)×Int×Int×Int×(List af)×Int×Int)) (S:=(Int×(List ab)×(List (ByteArray×Bool)))) (fun x=>(((pe6 x.1),x.2.1,x.2.2.1,(pe3 x).1,(pe3 x).2.1,(pe3 x).2.2.1,(pe3 (pe3 x)),(pe4 x).1,(pe4 x).2.1,(pe4 x).2.2.1,(pe3 (pe4 x))),((pe7 x.1),(pe5 x),(pe7 x)))) qmh (CE:=(qL2×qL2×Int×(List af)×Int×Int×Int×(List af)×Int×Int)) (E:=((List ab)×(List (ByteArray×Bool)))) (fun c e=>(((),(),(),(),()),(c.1,c.2.1,(c.2.2.1,(pe3 c),(pe4 c),(pe5 c),()),((pe6 c),(pe7 c),(pe8 c),(pf9 c),()),e.1,((),()),e.2,()))) (fun c=>(c.2.1,c.2.2.1,(pe3 c),(pe4 c),(pe5 c),(pe6 c),(pe7 c),(pe8 c),(pe9 c),(pf10 c))) (fun{R} c a nx dn rt=>ov c.1 c.2.1 c.2.2.1 (pe3 c) (pe4 c) (pe5 c) (pe6 c) (pe7 c) (pe8 c) (pe9 c) (pf10 c) a.1 a.2.1 a.2.2 nx dn rt),au _ 55 [true,true] qmk (C:=(qL2×qL2×Int×(List af)×Int×Int×Int×(List af)×Int×Int)) (S:=(Bool×(List ab)×(List (ByteArray×Bool)))) (fun x=>((x.2.1,x.2.2.1,(pe3 x).1,(pe3 x).2.1,(pe3 x).2.2.1,(pe3 (pe3 x)),(pe4 x).1,(pe4 x).2.1,(pe4 x).2.2.1,(pe3 (pe4 x))),((pe5 x.1),(pe5 x),(pe8 x)))) qmj (CE:=(qL2×qL2)) (E:=(List ab)) (fun c e=>(((),()),(c.1,c.2,e,()))) (fun c=>(c.1,c.2.1)) (fun{R} c a nx dn rt=>ow c.1 c.2.1 c.2.2.1 (pe3 c) (pe4 c) (pe5 c) (pe6 c) (pe7 c) (pe8 c) (pf9 c) a.1 a.2.1 a.2.2 nx dn rt)],ck 55 tt [true,true] [.tmp 8] qdy (fun x=>(x.2.1,x.2.2.1,(pe3 x)))⟩
theorem rc:CtxM Try.prog rf:=jw fits mixed (mC qj (mC sw m0))
theorem qok:bc Try.prog rf 0 (lc 2 Try.f68 39319):=lp rfl rc (.two .z (.two .z (.two (.one (.two .z (.two .z (.d [0,0,0,6,15] [4] [])))) .z))) s0 (fun c a=>(((),(),(),(),(),c.1,(),c.2.1,c.2.2.1,(),(pe3 c),a.1,()),((pe4 c),(pe5 c),((pe6 c),(pe7 c),(pe8 c),(pe9 c),()),((pe10 c),(pe11 c),(pe12 c),(pf13 c),()),a.2.1,((),()),a.2.2,()))) (fun y=>(((pe6 y.1),(pe7 y.1),y.2.1,y.2.2.1,(pe3 y).1,(pe3 y).2.1,(pe3 y).2.2.1,(pe3 (pe3 y)),(pe4 y).1,(pe4 y).2.1,(pe4 y).2.2.1,(pe3 (pe4 y))),((pe5 y),(pe7 y))))
theorem qom:bc Try.prog rf 2 (lc 4 Try.f68 607):=lp rfl rc .z s0 (fun c a=>(((),(),(),(),(),a.1,()),(c.1,c.2.1,(c.2.2.1,(pe3 c),(pe4 c),(pe5 c),()),((pe6 c),(pe7 c),(pe8 c),(pf9 c),()),a.2.1,((),()),(((),()),()),a.2.2,()))) (fun y=>((y.2.1,y.2.2.1),(pe3 y)))
theorem qol:bc Try.prog rf 1 (lc 0 Try.f68 151):=lp rfl rc (.two .z (.two .z (.two (.one (.two .z (.two .z (.s 0)))) .z))) (sC qok s0) (fun c a=>(((),(),(),(),(),(),c.1,a.1,()),(c.2.1,c.2.2.1,((pe3 c),(pe4 c),(pe5 c),(pe6 c),()),((pe7 c),(pe8 c),(pe9 c),(pf10 c),()),a.2.1,((),()),a.2.2,()))) (fun y=>((y.2.1,y.2.2.1,(pe3 y).1,(pe3 y).2.1,(pe3 y).2.2.1,(pe3 (pe3 y)),(pe4 y).1,(pe4 y).2.1,(pe4 y).2.2.1,(pe3 (pe4 y))),((pe5 y),(pe7 y))))
abbrev qe0:Mdl:=(ay (.cons (.d false az.ty) (.cons (.d false az.ty) (.cons (.own 0) (.cons (.own 1) .nil)))) [qfg,qfg] [true,true] 1 qdy (B:=(qL2×qL2×(List ab))) (fun b=>(((),()),(b.1,b.2.1,b.2.2,()))) (fun a=>oy a.1.1 a.1.2.1 a.2.1 a.2.2.1))
theorem qmn:MdlOK Try.prog 68 qe0:=jv Try.func68 rfl rc (.two .z (.two .z (.two .z (.two (.two .z (.s 1)) (.two .z (.two (.two .z (.s 2)) .z)))))) (sC qol (sC qom s0))
def qf3:Shp:=⟨[qc7],[]⟩
abbrev qvr:Ctx (Bool):=⟨16,tt,false,false,[],i9 [(19,eu)],jp [],ck 16 tt [] [.tmp 4] qf3 (fun x=>x.1.1)⟩
theorem qvq:CtxM Try.prog qvr:=jw fits mixed (mC fb m0)
abbrev qij:Mdl:=(ay (.cons (.d false ab.ty) (.cons (.rp false qT1) (.cons (.rp false ae.ty) .nil))) [] [] 1 qf3 (B:=Bool) (fun b=>((b,()),(()))) (fun a=>qdt a.1.1 a.1.2.1 a.1.2.2.1))
theorem qqc:MdlOK Try.prog 69 qij:=jv Try.func69 rfl qvq .z s0
def nh:Shp:=⟨[qxg],[]⟩
abbrev oc:Ctx (Int):=⟨19,tt,false,false,[],i9 [(69,qij)],jp [au _ 19 [] wn (C:=((List ab)×qL1×ae×Int)) (S:=Int) (fun x=>((x.1.1,x.1.2.1.1,x.1.2.1.2.1,x.1.2.2.1),(pe3 x.1))) wm (CE:=Unit) (E:=Unit) (fun c e=>((()),(()))) (fun c=>()) (fun{R} c a nx dn rt=>du c.1 c.2.1 c.2.2.1 c.2.2.2 a nx dn rt)],ck 19 tt [] [.tmp 4] nh (fun x=>x.1.1)⟩
theorem n9:CtxM Try.prog oc:=jw fits mixed (mC qqc m0)
theorem xp:bc Try.prog oc 0 (lc 0 Try.f73 37):=lp rfl n9 .z s0 (fun c a=>((c.1,(c.2.1,c.2.2.1,()),c.2.2.2,a,()),(()))) (fun y=>((),()))
abbrev oa:Mdl:=(ay (.cons (.d false (.slice ab.ty)) (.cons (.fn 69 (.cons (.rp false qT1) (.cons (.rp false ae.ty) .nil))) .nil)) [] [] 1 nh (B:=Int) (fun b=>((b,()),(()))) (fun a=>i6 a.1.1 a.1.2.1.1 a.1.2.1.2.1))
theorem wo:MdlOK Try.prog 73 oa:=jv Try.func73 rfl n9 (.two .z (.two (.two .z (.s 0)) .z)) (sC xp s0)
def k8:Shp:=⟨[qc7],[]⟩
abbrev vb:Ctx (Bool):=⟨9,tt,false,false,[],i9 [(73,oa)],jp [],ck 9 tt [] [.tmp 4] k8 (fun x=>x.1.1)⟩
theorem va:CtxM Try.prog vb:=jw fits mixed (mC wo m0)
abbrev me:Mdl:=(ay (.cons (.d false (.slice ab.ty)) (.cons (.fn 69 (.cons (.rp false qT1) (.cons (.rp false ae.ty) .nil))) .nil)) [] [] 1 k8 (B:=Bool) (fun b=>((b,()),(()))) (fun a=>dq a.1.1 a.1.2.1.1 a.1.2.1.2.1))
theorem tv:MdlOK Try.prog 36 me:=jv Try.func36 rfl va .z s0
def qkg:Shp:=⟨[(0, .d true fv.ty),q5d],[]⟩
abbrev qau:Ctx ((fv×Int)):=⟨138,tt,false,true,[],i9 [(58,qdu),(59,wc),(65,dy),(67,qkn),(68,qe0),(36,me),(50,jg)],jp [au _ 138 [] qvj (C:=(Int×(List ae)×(List ae)×Int×Int×(List af)×Int×Int×Int×(List af)×Int×Int×qL1×qL1×(List ab)×qL1)) (S:=(Int×qL2)) (fun x=>((x.1.1,(pe5 x.1),(pe7 x.1),(pe8 x.1),x.2.1.1,x.2.1.2.1,x.2.1.2.2.1,(pe3 x.2.1),x.2.2.1.1,x.2.2.1.2.1,x.2.2.1.2.2.1,(pe3 x.2.2.1),(pe3 x).1,(pe3 x).2.1,(pe3 x).2.2.1,(pe4 x).1),((pe9 x.1),(pe5 x)))) qvi (CE:=(Int×(List ae)×Int×(List af)×Int×Int×Int×(List af)×Int×Int×qL1×qL1×(List ab)×qL1)) (E:=qL2) (fun c e=>((c.1,(),(),(),(),c.2.1,(),()),((c.2.2.1,(pe3 c),(pe4 c),(pe5 c),()),((pe6 c),(pe7 c),(pe8 c),(pe9 c),()),((pe10 c),(pe11 c),(pe12 c),()),((pf13 c),()),e,()))) (fun c=>(c.1,c.2.1,(pe4 c),(pe5 c),(pe6 c),(pe7 c),(pe8 c),(pe9 c),(pe10 c),(pe11 c),(pe12 c),(pe13 c),(pe14 c),(pf15 c))) (fun{R} c a nx dn rt=>vp c.1 c.2.1 c.2.2.1 (pe3 c) (pe4 c) (pe5 c) (pe6 c) (pe7 c) (pe8 c) (pe9 c) (pe10 c) (pe11 c) (pe12 c) (pe13 c) (pe14 c) (pf15 c) a.1 a.2 nx dn rt),au _ 138 [] qvl (C:=((List ab)×Int×qL1×qL1×(List ab)×qL1×qL1)) (S:=(Int×(List ab))) (fun x=>((x.1.2.2.1,(pe3 x.1),x.2.1.1,x.2.1.2.1,x.2.1.2.2.1,x.2.2.1.1,x.2.2.1.2.1),((pe4 x.1),(pe3 x)))) qvk (CE:=(qL1×qL1×(List ab)×qL1×qL1)) (E:=(List ab)) (fun c e=>(((),(),()),((c.1,c.2.1,c.2.2.1,()),((pe3 c),(pf4 c),(),()),e,()))) (fun c=>(c.2.2.1,(pe3 c),(pe4 c),(pe5 c),(pf6 c))) (fun{R} c a nx dn rt=>vq c.1 c.2.1 c.2.2.1 (pe3 c) (pe4 c) (pe5 c) (pf6 c) a.1 a.2 nx dn rt),au _ 138 [] qvn (C:=((List ab)×(List ae)×Int×qL1×qL1×(List ab)×qL1)) (S:=Int) (fun x=>((x.1.2.2.1,(pe3 x.1),(pe4 x.1),x.2.1.1,x.2.1.2.1,x.2.1.2.2.1,x.2.2.1.1),(pe5 x.1))) qvm (CE:=(qL1×qL1×(List ab))) (E:=Unit) (fun c e=>(((),()),((c.1,c.2.1,c.2.2,()),()))) (fun c=>((pe3 c),(pe4 c),(pe5 c))) (fun{R} c a nx dn rt=>vx c.1 c.2.1 c.2.2.1 (pe3 c) (pe4 c) (pe5 c) (pf6 c) a nx dn rt)],ck 138 tt [] [.cell 8 28, .tmp 9] qkg (fun x=>(x.1.1,x.1.2.1))⟩
theorem qat:CtxM Try.prog qau:=jw fits mixed (mC qf4 (mC qbm (mC ju (mC qss (mC qmn (mC tv (mC kj m0)))))))
theorem qx0:bc Try.prog qau 1 (lc 4 Try.f31 313733119):=lp rfl qat (.two .z (.two .z (.two (.one (.two .z (.d [0,1,0,4,12,0,32,124,252,508,1023,2047,4095] [10,12] []))) .z))) s0 (fun c a=>(((),(),c.1,c.2.1,a.1,()),((c.2.2.1,(pe3 c),(pe4 c),()),((pe5 c),(pf6 c),(),()),a.2,()))) (fun y=>((y.2.1.1,y.2.1.2.1,y.2.1.2.2.1,y.2.2.1.1,y.2.2.1.2.1),(pe3 y)))
theorem qx1:bc Try.prog qau 2 (lc 2 Try.f31 77823):=lp rfl qat (.two .z (.two .z (.two (.one (.two .z (.two .z (.two (.two (.d [0,1,3,0,8,31,0,127] [7] []) (.two (.two .z (.s 1)) .z)) .z)))) .z))) (sC qx0 s0) (fun c a=>(((),(),c.1,c.2.1,c.2.2.1,a,()),(((pe3 c),(pe4 c),(pe5 c),()),((pf6 c),()),()))) (fun y=>((y.2.1.1,y.2.1.2.1,y.2.1.2.2.1),()))
theorem qxz:bc Try.prog qau 0 (lc 0 Try.f31 2431):=lp rfl qat .z s0 (fun c a=>((c.1,(),(),(),(),c.2.1,(),c.2.2.1,(pe3 c),a.1,()),(((pe4 c),(pe5 c),(pe6 c),(pe7 c),()),((pe8 c),(pe9 c),(pe10 c),(pe11 c),()),((pe12 c),(pe13 c),(pe14 c),()),((pf15 c),()),a.2,()))) (fun y=>((y.1.1,(pe5 y.1),y.2.1.1,y.2.1.2.1,y.2.1.2.2.1,(pe3 y.2.1),y.2.2.1.1,y.2.2.1.2.1,y.2.2.1.2.2.1,(pe3 y.2.2.1),(pe3 y).1,(pe3 y).2.1,(pe3 y).2.2.1,(pe4 y).1),(pe5 y)))
abbrev qfl:Mdl:=(ay (.cons (.d false az.ty) (.cons (.d false az.ty) (.cons (.d false qT1) (.cons (.d false qT0) .nil)))) [] [] 2 qkg (B:=(fv×Int)) (fun b=>((b.1,b.2,()),(()))) (fun a=>dm a.1.1 a.1.2.1 a.1.2.2.1 (pe3 a.1)))
theorem qik:MdlOK Try.prog 31 qfl:=jv Try.func31 rfl qat (.two .z (.two .z (.two .z (.two .z (.two .z (.two .z (.two .z (.two (.two .z (.s 0)) (.two .z (.two .z (.two .z (.two .z (.two (.two .z (.s 2)) .z))))))))))))) (sC qxz (sC qx1 s0))
def qe4:Shp:=⟨[qc7],[]⟩
abbrev qsj:Ctx (Bool):=⟨15,tt,false,false,[],i9 [(103,yd)],jp [],ck 15 tt [] [.tmp 4] qe4 (fun x=>x.1.1)⟩
theorem qsi:CtxM Try.prog qsj:=jw fits mixed (mC qaa m0)
abbrev qf5:Mdl:=(ay (.cons (.d false az.ty) (.cons (.d false qT1) .nil)) [] [] 1 qe4 (B:=Bool) (fun b=>((b,()),(()))) (fun a=>qi a.1.1 a.1.2.1))
theorem qor:MdlOK Try.prog 78 qf5:=jv Try.func78 rfl qsi .z s0
def qe6:Shp:=⟨[qc7],[]⟩
abbrev qsw:Ctx (Bool):=⟨17,tt,false,false,[],i9 [(78,qf5)],jp [],ck 17 tt [] [.tmp 4] qe6 (fun x=>x.1.1)⟩
theorem qsv:CtxM Try.prog qsw:=jw fits mixed (mC qor m0)
abbrev qf9:Mdl:=(ay (.cons (.d false ab.ty) (.cons (.rp false az.ty) (.cons (.rp false az.ty) .nil))) [] [] 1 qe6 (B:=Bool) (fun b=>((b,()),(()))) (fun a=>qb4 a.1.1 a.1.2.1 a.1.2.2.1))
theorem qot:MdlOK Try.prog 77 qf9:=jv Try.func77 rfl qsv .z s0
def nj:Shp:=⟨[qxg],[]⟩
abbrev og:Ctx (Int):=⟨19,tt,false,false,[],i9 [(77,qf9)],jp [au _ 19 [] wu (C:=((List ab)×az×az×Int)) (S:=Int) (fun x=>((x.1.1,x.1.2.1.1,x.1.2.1.2.1,x.1.2.2.1),(pe3 x.1))) wq (CE:=Unit) (E:=Unit) (fun c e=>((()),(()))) (fun c=>()) (fun{R} c a nx dn rt=>dv c.1 c.2.1 c.2.2.1 c.2.2.2 a nx dn rt)],ck 19 tt [] [.tmp 4] nj (fun x=>x.1.1)⟩
theorem od:CtxM Try.prog og:=jw fits mixed (mC qot m0)
theorem xq:bc Try.prog og 0 (lc 0 Try.f73 37):=lp rfl od .z s0 (fun c a=>((c.1,(c.2.1,c.2.2.1,()),c.2.2.2,a,()),(()))) (fun y=>((),()))
abbrev oe:Mdl:=(ay (.cons (.d false (.slice ab.ty)) (.cons (.fn 77 (.cons (.rp false az.ty) (.cons (.rp false az.ty) .nil))) .nil)) [] [] 1 nj (B:=Int) (fun b=>((b,()),(()))) (fun a=>i7 a.1.1 a.1.2.1.1 a.1.2.1.2.1))
theorem wv:MdlOK Try.prog 73 oe:=jv Try.func73 rfl od (.two .z (.two (.two .z (.s 0)) .z)) (sC xq s0)
def k9:Shp:=⟨[qc7],[]⟩
abbrev ve:Ctx (Bool):=⟨9,tt,false,false,[],i9 [(73,oe)],jp [],ck 9 tt [] [.tmp 4] k9 (fun x=>x.1.1)⟩
theorem vc:CtxM Try.prog ve:=jw fits mixed (mC wv m0)
abbrev mf:Mdl:=(ay (.cons (.d false (.slice ab.ty)) (.cons (.fn 77 (.cons (.rp false az.ty) (.cons (.rp false az.ty) .nil))) .nil)) [] [] 1 k9 (B:=Bool) (fun b=>((b,()),(()))) (fun a=>gq a.1.1 a.1.2.1.1 a.1.2.1.2.1))
theorem tw:MdlOK Try.prog 36 mf:=jv Try.func36 rfl vc .z s0
def qit:Shp:=⟨[qc7],[]⟩
abbrev qx5:Ctx (Bool):=⟨11,tt,false,false,[],i9 [(36,mf)],jp [],ck 11 tt [] [.tmp 6] qit (fun x=>x.1.1)⟩
theorem qx4:CtxM Try.prog qx5:=jw fits mixed (mC tw m0)
abbrev qkv:Mdl:=(ay (.cons (.d false az.ty) (.cons (.d false az.ty) (.cons (.d false (.slice ab.ty)) .nil))) [] [] 1 qit (B:=Bool) (fun b=>((b,()),(()))) (fun a=>qav a.1.1 a.1.2.1 a.1.2.2.1))
theorem qsx:MdlOK Try.prog 44 qkv:=jv Try.func44 rfl qx4 .z s0
def qn:Shp:=⟨[qc7],[]⟩
abbrev ru:Ctx (Bool):=⟨26,tt,false,false,[],i9 [],jp [au _ 26 [] qbt (C:=((List ByteArray)×(List ByteArray)×Int)) (S:=Int) (fun x=>((x.1.1,x.1.2.1,x.1.2.2.1),(pe3 x.1))) qbs (CE:=Unit) (E:=Unit) (fun c e=>((()),(()))) (fun c=>()) (fun{R} c a nx dn rt=>dk c.1 c.2.1 c.2.2 a nx dn rt)],ck 26 tt [] [.tmp 4] qn (fun x=>x.1.1)⟩
theorem ro:CtxM Try.prog ru:=jw fits mixed m0
theorem qcg:bc Try.prog ru 0 (lc 0 Try.f46 75):=lp rfl ro (.two .z (.two .z (.two (.one (.two .z (.two (.d [0,0,3,7,0,0,48,112,255] [] []) .z))) .z))) s0 (fun c a=>((c.1,c.2.1,c.2.2,a,()),(()))) (fun y=>((),()))
abbrev rq:Mdl:=(ay (.cons (.d false (.slice .str)) (.cons (.d false (.slice .str)) .nil)) [] [] 1 qn (B:=Bool) (fun b=>((b,()),(()))) (fun a=>im a.1.1 a.1.2.1))
theorem qbu:MdlOK Try.prog 46 rq:=jv Try.func46 rfl ro (.two .z (.two .z (.two (.two .z (.s 0)) .z))) (sC qcg s0)
def qey:Shp:=⟨[qc7],[]⟩
abbrev qsf:Ctx (Bool):=⟨15,tt,false,false,[],i9 [(19,eu)],jp [],ck 15 tt [] [.tmp 4] qey (fun x=>x.1.1)⟩
theorem qse:CtxM Try.prog qsf:=jw fits mixed (mC fb m0)
abbrev qf0:Mdl:=(ay (.cons (.d false ab.ty) (.cons (.rp false qT1) (.cons (.rp false qT1) .nil))) [] [] 1 qey (B:=Bool) (fun b=>((b,()),(()))) (fun a=>qb2 a.1.1 a.1.2.1 a.1.2.2.1))
theorem qoh:MdlOK Try.prog 47 qf0:=jv Try.func47 rfl qse .z s0
def ne:Shp:=⟨[qxg],[]⟩
abbrev n8:Ctx (Int):=⟨19,tt,false,false,[],i9 [(47,qf0)],jp [au _ 19 [] wj (C:=((List ab)×qL1×qL1×Int)) (S:=Int) (fun x=>((x.1.1,x.1.2.1.1,x.1.2.1.2.1,x.1.2.2.1),(pe3 x.1))) wi (CE:=Unit) (E:=Unit) (fun c e=>((()),(()))) (fun c=>()) (fun{R} c a nx dn rt=>dr c.1 c.2.1 c.2.2.1 c.2.2.2 a nx dn rt)],ck 19 tt [] [.tmp 4] ne (fun x=>x.1.1)⟩
theorem n6:CtxM Try.prog n8:=jw fits mixed (mC qoh m0)
theorem xo:bc Try.prog n8 0 (lc 0 Try.f73 37):=lp rfl n6 .z s0 (fun c a=>((c.1,(c.2.1,c.2.2.1,()),c.2.2.2,a,()),(()))) (fun y=>((),()))
abbrev n7:Mdl:=(ay (.cons (.d false (.slice ab.ty)) (.cons (.fn 47 (.cons (.rp false qT1) (.cons (.rp false qT1) .nil))) .nil)) [] [] 1 ne (B:=Int) (fun b=>((b,()),(()))) (fun a=>i5 a.1.1 a.1.2.1.1 a.1.2.1.2.1))
theorem wl:MdlOK Try.prog 73 n7:=jv Try.func73 rfl n6 (.two .z (.two (.two .z (.s 0)) .z)) (sC xo s0)
def k7:Shp:=⟨[qc7],[]⟩
abbrev u9:Ctx (Bool):=⟨9,tt,false,false,[],i9 [(73,n7)],jp [],ck 9 tt [] [.tmp 4] k7 (fun x=>x.1.1)⟩
theorem u7:CtxM Try.prog u9:=jw fits mixed (mC wl m0)
abbrev mc:Mdl:=(ay (.cons (.d false (.slice ab.ty)) (.cons (.fn 47 (.cons (.rp false qT1) (.cons (.rp false qT1) .nil))) .nil)) [] [] 1 k7 (B:=Bool) (fun b=>((b,()),(()))) (fun a=>dp a.1.1 a.1.2.1.1 a.1.2.1.2.1))
theorem tu:MdlOK Try.prog 36 mc:=jv Try.func36 rfl u7 .z s0
def zl:Shp:=⟨[qc7],[qve,qpc]⟩
abbrev qkr:Ctx ((Bool×(List (ByteArray×Bool)))):=⟨11,tt,false,false,[true,true],i9 [(81,qz)],jp [],ck 11 tt [true,true] [.tmp 5] zl (fun x=>(x.1.1,x.2.2.1))⟩
theorem qkq:CtxM Try.prog qkr:=jw fits mixed (mC qj m0)
abbrev se:Mdl:=(ay (.cons (.d false qT1) (.cons (.d false qT1) (.cons (.ptr 0) .nil))) [qve,qpc] [true,true] 1 zl (B:=(Bool×(List (ByteArray×Bool)))) (fun b=>((b.1,()),(((),()),b.2,()))) (fun a=>k6 a.1.1 a.1.2.1 a.2.2.1))
theorem yc:MdlOK Try.prog 82 se:=jv Try.func82 rfl qkq (.two .z (.two (.d [0,0,0,6,15,31] [] []) .z)) s0
def qbk:Shp:=⟨[qc7],[qrr,qls,qpc]⟩
abbrev qmp:Ctx ((Bool×(List (ByteArray×Bool)))):=⟨24,tt,false,false,[true,true,true],i9 [(82,se)],jp [],ck 24 tt [true,true,true] [.tmp 6] qbk (fun x=>(x.1.1,(pe3 x)))⟩
theorem qmo:CtxM Try.prog qmp:=jw fits mixed (mC yc m0)
abbrev qcl:Mdl:=(ay (.cons (.d false ag.ty) (.cons (.rp false az.ty) (.cons (.rp false .str) (.cons (.ptr 0) (.cons (.rp false ag.ty) .nil))))) [qrr,qls,qpc] [true,true,true] 1 qbk (B:=(Bool×(List (ByteArray×Bool)))) (fun b=>((b.1,()),((((),()),()),((),()),b.2,()))) (fun a=>pr a.1.1 a.1.2.1 a.1.2.2.1 (pe4 a.1) (pe3 a)))
theorem qjg:MdlOK Try.prog 107 qcl:=jv Try.func107 rfl qmo (.two .z (.two (.d [0,1,0,4,15,31,63,0,255,511,1023,1023,3071,1023,9215,32767,65535,131071] [15,16,17] []) .z)) s0
def fe:Shp:=⟨[qxg],[qrr,qls,qpc]⟩
abbrev fo:Ctx ((Int×(List (ByteArray×Bool)))):=⟨19,tt,false,false,[true,true,true],i9 [(107,qcl)],jp [au _ 19 [true,true,true] lz (C:=((List ag)×az×ByteArray×ag×Int)) (S:=(Int×(List (ByteArray×Bool)))) (fun x=>((x.1.1,x.1.2.1.1,x.1.2.1.2.1,(pe3 x.1.2.1),x.1.2.2.1),((pe3 x.1),(pe3 x)))) ly (CE:=Unit) (E:=(List (ByteArray×Bool))) (fun c e=>((()),((((),()),()),((),()),e,()))) (fun c=>()) (fun{R} c a nx dn rt=>b8 c.1 c.2.1 c.2.2.1 (pe3 c) (pf4 c) a.1 a.2 nx dn rt)],ck 19 tt [true,true,true] [.tmp 4] fe (fun x=>(x.1.1,(pe3 x)))⟩
theorem fl:CtxM Try.prog fo:=jw fits mixed (mC qjg m0)
theorem mo:bc Try.prog fo 0 (lc 0 Try.f118 37):=lp rfl fl .z s0 (fun c a=>((c.1,(c.2.1,c.2.2.1,(),(pe3 c),()),(pf4 c),a.1,()),((((),()),()),((),()),a.2,()))) (fun y=>((),(pe3 y)))
abbrev fm:Mdl:=(ay (.cons (.d false (.slice ag.ty)) (.cons (.fn 107 (.cons (.rp false az.ty) (.cons (.rp false .str) (.cons (.ptr 0) (.cons (.rp false ag.ty) .nil))))) .nil)) [qrr,qls,qpc] [true,true,true] 1 fe (B:=(Int×(List (ByteArray×Bool)))) (fun b=>((b.1,()),((((),()),()),((),()),b.2,()))) (fun a=>c6 a.1.1 a.1.2.1.1 a.1.2.1.2.1 (pe3 a.1.2.1) (pe3 a)))
theorem l3:MdlOK Try.prog 118 fm:=jv Try.func118 rfl fl (.two .z (.two (.two .z (.s 0)) .z)) (sC mo s0)
def ed:Shp:=⟨[qc7],[qrr,qls,qpc]⟩
abbrev lb:Ctx ((Bool×(List (ByteArray×Bool)))):=⟨9,tt,false,false,[true,true,true],i9 [(118,fm)],jp [],ck 9 tt [true,true,true] [.tmp 4] ed (fun x=>(x.1.1,(pe3 x)))⟩
theorem la:CtxM Try.prog lb:=jw fits mixed (mC l3 m0)
abbrev eq:Mdl:=(ay (.cons (.d false (.slice ag.ty)) (.cons (.fn 107 (.cons (.rp false az.ty) (.cons (.rp false .str) (.cons (.ptr 0) (.cons (.rp false ag.ty) .nil))))) .nil)) [qrr,qls,qpc] [true,true,true] 1 ed (B:=(Bool×(List (ByteArray×Bool)))) (fun b=>((b.1,()),((((),()),()),((),()),b.2,()))) (fun a=>a7 a.1.1 a.1.2.1.1 a.1.2.1.2.1 (pe3 a.1.2.1) (pe3 a)))
theorem j9:MdlOK Try.prog 106 eq:=jv Try.func106 rfl la .z s0
def qd1:Shp:=⟨[qc7],[qve,qpc]⟩
abbrev x6:Ctx ((Bool×(List (ByteArray×Bool)))):=⟨85,tt,false,false,[true,true],i9 [(105,qhw),(19,eu),(94,sg),(103,yd),(82,se),(106,eq)],jp [au _ 85 [true,true] qmt (C:=(qL1×(List ag)×(List ag)×Int×Int×(List af)×Int×Int×Int×(List af)×Int×Int)) (S:=(Int×(List (ByteArray×Bool)))) (fun x=>((x.1.1,(pe4 x.1),(pe5 x.1),(pe6 x.1),(pe3 x).1,(pe3 x).2.1,(pe3 x).2.2.1,(pe3 (pe3 x)),(pe4 x).1,(pe4 x).2.1,(pe4 x).2.2.1,(pe3 (pe4 x))),((pe7 x.1),x.2.2.1))) qms (CE:=Unit) (E:=(List (ByteArray×Bool))) (fun c e=>((()),(((),()),e,()))) (fun c=>()) (fun{R} c a nx dn rt=>io c.1 c.2.1 c.2.2.1 (pe3 c) (pe4 c) (pe5 c) (pe6 c) (pe7 c) (pe8 c) (pe9 c) (pe10 c) (pf11 c) a.1 a.2 nx dn rt),qj0 _ 85 [true,true] qmv (A:=(qL1×qL1×(List (ByteArray×Bool))×Int×(List af)×Int×Int×Int×(List af)×Int×Int)) (fun x=>(x.1.1,x.1.2.1,x.2.2.1,(pe3 x).1,(pe3 x).2.1,(pe3 x).2.2.1,(pe3 (pe3 x)),(pe4 x).1,(pe4 x).2.1,(pe4 x).2.2.1,(pe3 (pe4 x)))) qmu (CE:=Unit) (E:=Unit) (fun c e=>((()),(()))) (fun c=>()) (fun{R} c dn rt=>uk c.1 c.2.1 c.2.2.1 (pe3 c) (pe4 c) (pe5 c) (pe6 c) (pe7 c) (pe8 c) (pe9 c) (pf10 c) dn rt)],ck 85 tt [true,true] [.tmp 10] qd1 (fun x=>(x.1.1,x.2.2.1))⟩
theorem x5:CtxM Try.prog x6:=jw fits mixed (mC qkz (mC fb (mC th (mC qaa (mC yc (mC j9 m0))))))
theorem qon:bc Try.prog x6 0 (lc 0 Try.f84 4863):=lp rfl x5 .z s0 (fun c a=>((c.1,(),(),(),c.2.1,c.2.2.1,(pe3 c),a.1,()),(((),()),a.2,((pe4 c),(pe5 c),(pe6 c),(pe7 c),()),((pe8 c),(pe9 c),(pe10 c),(pf11 c),()),(((),()),()),()))) (fun y=>((),y.2.2.1))
theorem qoo:bc Try.prog x6 1 (jc Try.f84 31):=jn rfl x5 (.two .z (.two .z (.two .z (.two .z (.two (.two .z (.s 0)) .z))))) (sC qon s0) (fun c=>((c.1,c.2.1,(),(),(),()),(((),()),c.2.2.1,((pe3 c),(pe4 c),(pe5 c),(pe6 c),()),((pe7 c),(pe8 c),(pe9 c),(pf10 c),()),(((),()),()),()))) (fun y=>((),()))
abbrev qe2:Mdl:=(ay (.cons (.d false az.ty) (.cons (.d false az.ty) (.cons (.d false qT1) (.cons (.d false qT1) (.cons (.fn 82 (.cons (.ptr 0) .nil)) .nil))))) [qve,qpc] [true,true] 1 qd1 (B:=(Bool×(List (ByteArray×Bool)))) (fun b=>((b.1,()),(((),()),b.2,()))) (fun a=>ta a.1.1 a.1.2.1 a.1.2.2.1 (pe3 a.1) a.2.2.1))
theorem qmw:MdlOK Try.prog 84 qe2:=jv Try.func84 rfl x5 (.two .z (.two .z (.two .z (.two .z (.s 1))))) (sC qoo s0)
def u3:Shp:=⟨[qc7],[qrr,qls,qpc]⟩
abbrev qf8:Ctx ((Bool×(List (ByteArray×Bool)))):=⟨15,tt,false,false,[true,true,true],i9 [(84,qe2)],jp [],ck 15 tt [true,true,true] [.tmp 5] u3 (fun x=>(x.1.1,(pe3 x)))⟩
theorem qf7:CtxM Try.prog qf8:=jw fits mixed (mC qmw m0)
abbrev xa:Mdl:=(ay (.cons (.d false ab.ty) (.cons (.rp false az.ty) (.cons (.rp false az.ty) (.cons (.ptr 0) .nil)))) [qrr,qls,qpc] [true,true,true] 1 u3 (B:=(Bool×(List (ByteArray×Bool)))) (fun b=>((b.1,()),((((),()),()),((),()),b.2,()))) (fun a=>px a.1.1 a.1.2.1 a.1.2.2.1 (pe3 a)))
theorem qen:MdlOK Try.prog 83 xa:=jv Try.func83 rfl qf7 .z s0
def ll:Shp:=⟨[qxg],[qrr,qls,qpc]⟩
abbrev mi:Ctx ((Int×(List (ByteArray×Bool)))):=⟨19,tt,false,false,[true,true,true],i9 [(83,xa)],jp [au _ 19 [true,true,true] t6 (C:=((List ab)×az×az×Int)) (S:=(Int×(List (ByteArray×Bool)))) (fun x=>((x.1.1,x.1.2.1.1,x.1.2.1.2.1,x.1.2.2.1),((pe3 x.1),(pe3 x)))) tz (CE:=Unit) (E:=(List (ByteArray×Bool))) (fun c e=>((()),((((),()),()),((),()),e,()))) (fun c=>()) (fun{R} c a nx dn rt=>da c.1 c.2.1 c.2.2.1 c.2.2.2 a.1 a.2 nx dn rt)],ck 19 tt [true,true,true] [.tmp 4] ll (fun x=>(x.1.1,(pe3 x)))⟩
theorem mg:CtxM Try.prog mi:=jw fits mixed (mC qen m0)
theorem uo:bc Try.prog mi 0 (lc 0 Try.f73 37):=lp rfl mg .z s0 (fun c a=>((c.1,(c.2.1,c.2.2.1,(),()),c.2.2.2,a.1,()),((((),()),()),((),()),a.2,()))) (fun y=>((),(pe3 y)))
abbrev mh:Mdl:=(ay (.cons (.d false (.slice ab.ty)) (.cons (.fn 83 (.cons (.rp false az.ty) (.cons (.rp false az.ty) (.cons (.ptr 0) .nil)))) .nil)) [qrr,qls,qpc] [true,true,true] 1 ll (B:=(Int×(List (ByteArray×Bool)))) (fun b=>((b.1,()),((((),()),()),((),()),b.2,()))) (fun a=>gu a.1.1 a.1.2.1.1 a.1.2.1.2.1 (pe3 a)))
theorem t7:MdlOK Try.prog 73 mh:=jv Try.func73 rfl mg (.two .z (.two (.two .z (.s 0)) .z)) (sC uo s0)
def qcq:Shp:=⟨[qxg],[]⟩
abbrev qd7:Ctx (Int):=⟨29,tt,false,false,[],i9 [(81,qz),(73,mh)],jp [au _ 29 [] qkp (C:=((List ab)×(List ab)×Int×Int×(List af)×Int×Int×Int×(List af)×Int×Int)) (S:=(Int×(List (ByteArray×Bool)))) (fun x=>((x.1.1,(pe4 x.1),(pe5 x.1),x.2.1.1,x.2.1.2.1,x.2.1.2.2.1,(pe3 x.2.1),x.2.2.1.1,x.2.2.1.2.1,x.2.2.1.2.2.1,(pe3 x.2.2.1)),((pe6 x.1),(pe4 x)))) qko (CE:=((List ab)×Int×(List af)×Int×Int×Int×(List af)×Int×Int)) (E:=(List (ByteArray×Bool))) (fun c e=>((c.1,(),(),(),()),((c.2.1,c.2.2.1,(pe3 c),(pe4 c),()),((pe5 c),(pe6 c),(pe7 c),(pf8 c),()),((),()),e,()))) (fun c=>(c.1,(pe3 c),(pe4 c),(pe5 c),(pe6 c),(pe7 c),(pe8 c),(pe9 c),(pf10 c))) (fun{R} c a nx dn rt=>nv c.1 c.2.1 c.2.2.1 (pe3 c) (pe4 c) (pe5 c) (pe6 c) (pe7 c) (pe8 c) (pe9 c) (pf10 c) a.1 a.2 nx dn rt)],ck 29 tt [] [.tmp 6] qcq (fun x=>x.1.1)⟩
theorem qd5:CtxM Try.prog qd7:=jw fits mixed (mC qj (mC t7 m0))
theorem qm4:bc Try.prog qd7 0 (lc 0 Try.f48 75):=lp rfl qd5 (.two .z (.two .z (.two (.one (.two .z (.d [0,0,2,0,8,30,63] [6] []))) .z))) s0 (fun c a=>((c.1,(),(),(),c.2.1,c.2.2.1,a.1,()),(((pe3 c),(pe4 c),(pe5 c),(pe6 c),()),((pe7 c),(pe8 c),(pe9 c),(pf10 c),()),((),()),a.2,()))) (fun y=>((y.1.1,y.2.1.1,y.2.1.2.1,y.2.1.2.2.1,(pe3 y.2.1),y.2.2.1.1,y.2.2.1.2.1,y.2.2.1.2.2.1,(pe3 y.2.2.1)),(pe4 y)))
abbrev qd6:Mdl:=(ay (.cons (.d false az.ty) (.cons (.d false az.ty) (.cons (.d false (.slice ab.ty)) .nil))) [] [] 1 qcq (B:=Int) (fun b=>((b,()),(()))) (fun a=>rg a.1.1 a.1.2.1 a.1.2.2.1))
theorem qks:MdlOK Try.prog 48 qd6:=jv Try.func48 rfl qd5 (.two .z (.two .z (.two (.two .z (.s 0)) .z))) (sC qm4 s0)
def qii:Shp:=⟨[qc7],[]⟩
abbrev qxy:Ctx (Bool):=⟨78,tt,false,false,[],i9 [(43,qfm),(44,qkv),(45,z7),(46,rq),(19,eu),(36,mc),(48,qd6)],jp [],ck 78 tt [] [.tmp 8] qii (fun x=>x.1.1)⟩
theorem qxx:CtxM Try.prog qxy:=jw fits mixed (mC qim (mC qsx (mC qdz (mC qbu (mC fb (mC tu (mC qks m0)))))))
abbrev qdq:Mdl:=(ay (.cons (.d false az.ty) (.cons (.d false az.ty) (.cons (.d false qT1) (.cons (.d false fv.ty) .nil)))) [] [] 1 qii (B:=Bool) (fun b=>((b,()),(()))) (fun a=>qy a.1.1 a.1.2.1 a.1.2.2.1 (pe3 a.1)))
theorem qf1:MdlOK Try.prog 13 qdq:=jv Try.func13 rfl qxx .z s0
def qm8:Shp:=⟨[qc7],[]⟩
abbrev q3m:Ctx (Bool):=⟨46,tt,false,false,[],i9 [(33,qua),(31,qfl),(13,qdq)],jp [],ck 46 tt [] [.tmp 0] qm8 (fun x=>x.1.1)⟩
theorem q3l:CtxM Try.prog q3m:=jw fits mixed (mC q0e (mC qik (mC qf1 m0)))
abbrev qp1:Mdl:=(ay .nil [] [] 1 qm8 (B:=Bool) (fun b=>((b,()),(()))) (fun a=>qj3))
theorem qxp:MdlOK Try.prog 8 qp1:=jv Try.func8 rfl q3l .z s0
def qif:Shp:=⟨[qc7],[]⟩
abbrev qxr:Ctx (Bool):=⟨19,tt,false,false,[],i9 [],jp [],ck 19 tt [] [.tmp 2] qif (fun x=>x.1.1)⟩
theorem qxq:CtxM Try.prog qxr:=jw fits mixed m0
abbrev qj8:Mdl:=(ay (.cons (.d false af.ty) .nil) [] [] 1 qif (B:=Bool) (fun b=>((b,()),(()))) (fun a=>qas a.1.1))
theorem qsa:MdlOK Try.prog 35 qj8:=jv Try.func35 rfl qxq .z s0
def iz:Shp:=⟨[qxg],[]⟩
abbrev jj:Ctx (Int):=⟨19,tt,false,false,[],i9 [(35,qj8)],jp [au _ 19 [] qb (C:=((List af)×Int)) (S:=Int) (fun x=>((x.1.1,x.1.2.2.1),(pe3 x.1))) qa (CE:=Unit) (E:=Unit) (fun c e=>((()),(()))) (fun c=>()) (fun{R} c a nx dn rt=>cu c.1 c.2 a nx dn rt)],ck 19 tt [] [.tmp 4] iz (fun x=>x.1.1)⟩
theorem jh:CtxM Try.prog jj:=jw fits mixed (mC qsa m0)
theorem qo:bc Try.prog jj 0 (lc 0 Try.f72 37):=lp rfl jh .z s0 (fun c a=>((c.1,(()),c.2,a,()),(()))) (fun y=>((),()))
abbrev ji:Mdl:=(ay (.cons (.d false (.slice af.ty)) (.cons (.fn 35 .nil) .nil)) [] [] 1 iz (B:=Int) (fun b=>((b,()),(()))) (fun a=>fa a.1.1))
theorem qc:MdlOK Try.prog 72 ji:=jv Try.func72 rfl jh (.two .z (.two (.two .z (.s 0)) .z)) (sC qo s0)
def g9:Shp:=⟨[qc7],[]⟩
abbrev pc:Ctx (Bool):=⟨9,tt,false,false,[],i9 [(72,ji)],jp [],ck 9 tt [] [.tmp 4] g9 (fun x=>x.1.1)⟩
theorem pb:CtxM Try.prog pc:=jw fits mixed (mC qc m0)
abbrev ig:Mdl:=(ay (.cons (.d false (.slice af.ty)) (.cons (.fn 35 .nil) .nil)) [] [] 1 g9 (B:=Bool) (fun b=>((b,()),(()))) (fun a=>bh a.1.1))
theorem ot:MdlOK Try.prog 34 ig:=jv Try.func34 rfl pb .z s0
def qnb:Shp:=⟨[qc7],[]⟩
abbrev q3q:Ctx (Bool):=⟨32,tt,false,false,[],i9 [(34,ig)],jp [],ck 32 tt [] [.tmp 2] qnb (fun x=>x.1.1)⟩
theorem q3p:CtxM Try.prog q3q:=jw fits mixed (mC ot m0)
abbrev qp5:Mdl:=(ay (.cons (.d false az.ty) .nil) [] [] 1 qnb (B:=Bool) (fun b=>((b,()),(()))) (fun a=>qew a.1.1))
theorem qxs:MdlOK Try.prog 9 qp5:=jv Try.func9 rfl q3p .z s0
def qp7:Shp:=⟨[qc7],[]⟩
abbrev q6j:Ctx (Bool):=⟨16,tt,false,false,[],i9 [],jp [],ck 16 tt [] [.tmp 2] qp7 (fun x=>x.1.1)⟩
theorem q6i:CtxM Try.prog q6j:=jw fits mixed m0
abbrev quc:Mdl:=(ay (.cons (.d false qT1) .nil) [] [] 1 qp7 (B:=Bool) (fun b=>((b,()),(()))) (fun a=>qhp a.1.1))
theorem q0f:MdlOK Try.prog 10 quc:=jv Try.func10 rfl q6i .z s0
def qla:Shp:=⟨[qc7],[]⟩
abbrev q00:Ctx (Bool):=⟨17,tt,false,false,[],i9 [],jp [],ck 17 tt [] [.tmp 2] qla (fun x=>x.1.1)⟩
theorem q0z:CtxM Try.prog q00:=jw fits mixed m0
abbrev qnt:Mdl:=(ay (.cons (.d false (.int .u8)) .nil) [] [] 1 qla (B:=Bool) (fun b=>((b,()),(()))) (fun a=>ym a.1.1))
theorem qv7:MdlOK Try.prog 99 qnt:=jv Try.func99 rfl q0z .z s0
def qk9:Shp:=⟨[qc7],[]⟩
abbrev qns:Ctx (Bool):=⟨52,tt,false,false,[],i9 [(99,qnt)],jp [au _ 52 [] qv5 (C:=ByteArray) (S:=Int) (fun x=>(x.1.1,x.1.2.1)) qv4 (CE:=Unit) (E:=Unit) (fun c e=>((()),(()))) (fun c=>()) (fun{R} c a nx dn rt=>ql c a nx dn rt)],ck 52 tt [] [.tmp 2] qk9 (fun x=>x.1.1)⟩
theorem qnq:CtxM Try.prog qns:=jw fits mixed (mC qv7 m0)
theorem qy2:bc Try.prog qns 0 (lc 0 Try.f74 75):=lp rfl qnq .z s0 (fun c a=>((c,a,()),(()))) (fun y=>((),()))
abbrev qnr:Mdl:=(ay (.cons (.d false .str) .nil) [] [] 1 qk9 (B:=Bool) (fun b=>((b,()),(()))) (fun a=>qc2 a.1.1))
theorem qv6:MdlOK Try.prog 74 qnr:=jv Try.func74 rfl qnq (.two .z (.two .z (.two (.two .z (.s 0)) .z))) (sC qy2 s0)
def qlk:Shp:=⟨[qc7],[]⟩
abbrev qnz:Ctx (Bool):=⟨41,tt,false,false,[],i9 [],jp [au _ 41 [] qwb (C:=(Int×qL1)) (S:=Int) (fun x=>((x.1.1,x.1.2.1),x.1.2.2.1)) qwa (CE:=Unit) (E:=Unit) (fun c e=>((()),(()))) (fun c=>()) (fun{R} c a nx dn rt=>nq c.1 c.2 a nx dn rt)],ck 41 tt [] [.tmp 4] qlk (fun x=>x.1.1)⟩
theorem qnx:CtxM Try.prog qnz:=jw fits mixed m0
theorem qzd:bc Try.prog qnz 0 (lc 0 Try.f75 37):=lp rfl qnx (.two .z (.two (.one (.two (.d [0,0,3,7,15,31,63,63,255,511,63,2047,4095,8191,16383,32767,65535,131071,131071,393215,1048575,2097151,131071,131071,12713983,29491199,67108863,134217727,268435455] [] []) .z)) .z)) s0 (fun c a=>((c.1,c.2,a,()),(()))) (fun y=>((),()))
abbrev qny:Mdl:=(ay (.cons (.d false qT0) (.cons (.d false qT1) .nil)) [] [] 1 qlk (B:=Bool) (fun b=>((b,()),(()))) (fun a=>p0 a.1.1 a.1.2.1))
theorem qwc:MdlOK Try.prog 75 qny:=jv Try.func75 rfl qnx (.two .z (.two (.two .z (.s 0)) .z)) (sC qzd s0)
def qnw:Shp:=⟨[qc7],[]⟩
abbrev qq5:Ctx (Bool):=⟨80,tt,false,false,[],i9 [(74,qnr),(75,qny)],jp [au _ 80 [] qzc (C:=(Int×(List af)×Int×Int)) (S:=Int) (fun x=>((x.2.1.1,x.2.1.2.1,x.2.1.2.2.1,(pe3 x.2.1)),x.1.2.1)) qzb (CE:=Unit) (E:=Unit) (fun c e=>((()),(()))) (fun c=>()) (fun{R} c a nx dn rt=>yp c.1 c.2.1 c.2.2.1 c.2.2.2 a nx dn rt)],ck 80 tt [] [.tmp 2] qnw (fun x=>x.1.1)⟩
theorem qq4:CtxM Try.prog qq5:=jw fits mixed (mC qv6 (mC qwc m0))
theorem q05:bc Try.prog qq5 0 (lc 0 Try.f38 75):=lp rfl qq4 .z s0 (fun c a=>(((),a,()),((c.1,c.2.1,c.2.2.1,c.2.2.2,()),()))) (fun y=>((),()))
abbrev yq:Mdl:=(ay (.cons (.d false az.ty) .nil) [] [] 1 qnw (B:=Bool) (fun b=>((b,()),(()))) (fun a=>sm a.1.1))
theorem yr:MdlOK Try.prog 38 yq:=jv Try.func38 rfl qq4 (.two .z (.two .z (.two (.two .z (.s 0)) .z))) (sC q05 s0)
def qus:Shp:=⟨[qc7],[]⟩
abbrev qy7:Ctx (Bool):=⟨18,tt,false,false,[],i9 [],jp [au _ 18 [] q4m (C:=(qL1×Int)) (S:=Int) (fun x=>((x.1.1,x.1.2.1),x.1.2.2.1)) q4l (CE:=Unit) (E:=Unit) (fun c e=>((()),(()))) (fun c=>()) (fun{R} c a nx dn rt=>qc3 c.1 c.2 a nx dn rt)],ck 18 tt [] [.tmp 4] qus (fun x=>x.1.1)⟩
theorem qy6:CtxM Try.prog qy7:=jw fits mixed m0
theorem q66:bc Try.prog qy7 0 (lc 0 Try.f41 37):=lp rfl qy6 .z s0 (fun c a=>((c.1,c.2,a,()),(()))) (fun y=>((),()))
abbrev qh0:Mdl:=(ay (.cons (.d false qT1) (.cons (.d false qT0) .nil)) [] [] 1 qus (B:=Bool) (fun b=>((b,()),(()))) (fun a=>q0 a.1.1 a.1.2.1))
theorem qh1:MdlOK Try.prog 41 qh0:=jv Try.func41 rfl qy6 (.two .z (.two (.two .z (.s 0)) .z)) (sC q66 s0)
def qn1:Shp:=⟨[jfg],[qmd]⟩
abbrev qc5:Ctx (qL1):=⟨72,tt,false,false,[],i9 [(41,qh0)],jp [au _ 72 [] qzf (C:=(Int×Int×Int×(List af)×Int×Int)) (S:=(Int×qL1)) (fun x=>((x.1.2.2.1,(pe3 x.1),x.2.1.1,x.2.1.2.1,x.2.1.2.2.1,(pe3 x.2.1)),((pe4 x.1),x.2.2.1))) qze (CE:=(Int×Int×Int×(List af)×Int×Int)) (E:=qL1) (fun c e=>(((),(),c.1,c.2.1,()),((c.2.2.1,(pe3 c),(pe4 c),(pf5 c),()),e,()))) (fun c=>(c.1,c.2.1,c.2.2.1,(pe3 c),(pe4 c),(pf5 c))) (fun{R} c a nx dn rt=>sn c.1 c.2.1 c.2.2.1 (pe3 c) (pe4 c) (pf5 c) a.1 a.2 nx dn rt),au _ 72 [] qzh (C:=(Int×Int×(List af)×Int×Int)) (S:=(Int×qL1)) (fun x=>((x.1.2.2.1,x.2.1.1,x.2.1.2.1,x.2.1.2.2.1,(pe3 x.2.1)),((pe3 x.1),x.2.2.1))) qzg (CE:=(Int×Int×(List af)×Int×Int)) (E:=qL1) (fun c e=>(((),(),c.1,()),((c.2.1,c.2.2.1,(pe3 c),(pf4 c),()),e,()))) (fun c=>(c.1,c.2.1,c.2.2.1,(pe3 c),(pf4 c))) (fun{R} c a nx dn rt=>sq c.1 c.2.1 c.2.2.1 (pe3 c) (pf4 c) a.1 a.2 nx dn rt),au _ 72 [] qzj (C:=(Int×(List af)×Int×Int)) (S:=(Int×qL1)) (fun x=>((x.2.1.1,x.2.1.2.1,x.2.1.2.2.1,(pe3 x.2.1)),(x.1.2.2.1,x.2.2.1))) qzi (CE:=Unit) (E:=qL1) (fun c e=>(((),()),(e,()))) (fun c=>()) (fun{R} c a nx dn rt=>yt c.1 c.2.1 c.2.2.1 c.2.2.2 a.1 a.2 nx dn rt)],ck 72 tt [] [.tmp 4] qn1 (fun x=>x.2.1)⟩
theorem qc4:CtxM Try.prog qc5:=jw fits mixed (mC qh1 m0)
theorem q09:bc Try.prog qc5 0 (lc 4 Try.f39 627275):=lp rfl qc4 .z s0 (fun c a=>(((),(),c.1,c.2.1,a.1,()),((c.2.2.1,(pe3 c),(pe4 c),(pf5 c),()),a.2,()))) (fun y=>((y.1.2.2.1,(pe3 y.1),y.2.1.1,y.2.1.2.1,y.2.1.2.2.1,(pe3 y.2.1)),y.2.2.1))
theorem q1a:bc Try.prog qc5 1 (lc 2 Try.f39 4683):=lp rfl qc4 (.two .z (.two (.one (.two (.two (.d [0,1,0,7,15,31,0,0,192,448,1023,2047] [] []) .z) (.two .z (.s 0)))) .z)) (sC q09 s0) (fun c a=>(((),(),c.1,a.1,()),((c.2.1,c.2.2.1,(pe3 c),(pf4 c),()),a.2,()))) (fun y=>((y.1.2.2.1,y.2.1.1,y.2.1.2.1,y.2.1.2.2.1,(pe3 y.2.1)),y.2.2.1))
theorem q1b:bc Try.prog qc5 2 (lc 0 Try.f39 75):=lp rfl qc4 (.two .z (.two (.one (.two .z (.s 1))) .z)) (sC q1a s0) (fun c a=>(((),(),a.1,()),((c.1,c.2.1,c.2.2.1,c.2.2.2,()),a.2,()))) (fun y=>((),y.2.1))
abbrev qre:Mdl:=(ay (.cons (.d false az.ty) (.cons (.d false qT0) .nil)) [] [] 1 qn1 (B:=qL1) (fun b=>(((),()),(b,()))) (fun a=>qbp a.1.1 a.1.2.1))
theorem qzk:MdlOK Try.prog 39 qre:=jv Try.func39 rfl qc4 (.two .z (.two .z (.two (.two .z (.s 2)) .z))) (sC q1b s0)
def qi6:Shp:=⟨[(0, .d true az.ty)],[]⟩
abbrev qli:Ctx (az):=⟨42,tt,false,false,[],i9 [],jp [au _ 42 [] qtm (C:=(Int×(List af)×Int×Int×Int×(List af)×Int×Int×Int×Int×Int)) (S:=(Int×(List af))) (fun x=>((x.2.1.1,x.2.1.2.1,x.2.1.2.2.1,(pe3 x.2.1),x.2.2.1.1,x.2.2.1.2.1,x.2.2.1.2.2.1,(pe3 x.2.2.1),(pe3 x).1,(pe3 x).2.2.1,(pe3 (pe3 x))),((pe3 x.1),(pe4 x)))) qtl (CE:=(Int×(List af)×Int×Int×Int×Int×Int)) (E:=(List af)) (fun c e=>(((),(),()),((c.1,c.2.1,c.2.2.1,(pe3 c),()),((pe4 c),(),(pe5 c),(pf6 c),()),e,()))) (fun c=>((pe4 c),(pe5 c),(pe6 c),(pe7 c),(pe8 c),(pe9 c),(pf10 c))) (fun{R} c a nx dn rt=>tq c.1 c.2.1 c.2.2.1 (pe3 c) (pe4 c) (pe5 c) (pe6 c) (pe7 c) (pe8 c) (pe9 c) (pf10 c) a.1 a.2 nx dn rt)],ck 42 tt [] [.cell 2 24] qi6 (fun x=>x.1.1)⟩
theorem qlg:CtxM Try.prog qli:=jw fits mixed m0
theorem qv9:bc Try.prog qli 0 (lc 0 Try.f40 75):=lp rfl qlg (.two .z (.two (.one (.two .z (.d [0,1,0,4,0,0,32,112,0,0,512,2032,4092,8188,16383,32767,65535] [7,11,12,13,14,16] []))) .z)) s0 (fun c a=>(((),(),(),a.1,()),((c.1,c.2.1,c.2.2.1,(pe3 c),()),((pe4 c),(pe5 c),(pe6 c),(pe7 c),()),((pe8 c),(),(pe9 c),(pf10 c),()),a.2,()))) (fun y=>((y.2.1.1,y.2.1.2.1,y.2.1.2.2.1,(pe3 y.2.1),y.2.2.1.1,y.2.2.1.2.2.1,(pe3 y.2.2.1)),(pe3 y)))
abbrev qlh:Mdl:=(ay (.cons (.d false az.ty) .nil) [] [] 1 qi6 (B:=az) (fun b=>((b,()),(()))) (fun a=>qa2 a.1.1))
theorem qtn:MdlOK Try.prog 40 qlh:=jv Try.func40 rfl qlg (.two .z (.two .z (.two (.two .z (.s 0)) .z))) (sC qv9 s0)
def qrg:Shp:=⟨[qc7],[]⟩
abbrev qu1:Ctx (Bool):=⟨18,tt,false,false,[],i9 [(41,qh0)],jp [au _ 18 [] q1d (C:=(qL1×qL1)) (S:=Int) (fun x=>((x.1.1,x.1.2.1),x.1.2.2.1)) q1c (CE:=Unit) (E:=Unit) (fun c e=>((()),(()))) (fun c=>()) (fun{R} c a nx dn rt=>qa4 c.1 c.2 a nx dn rt)],ck 18 tt [] [.tmp 4] qrg (fun x=>x.1.1)⟩
theorem quz:CtxM Try.prog qu1:=jw fits mixed (mC qh1 m0)
theorem q4r:bc Try.prog qu1 0 (lc 0 Try.f42 37):=lp rfl quz .z s0 (fun c a=>((c.1,c.2,a,()),(()))) (fun y=>((),()))
abbrev qu0:Mdl:=(ay (.cons (.d false qT1) (.cons (.d false qT1) .nil)) [] [] 1 qrg (B:=Bool) (fun b=>((b,()),(()))) (fun a=>qee a.1.1 a.1.2.1))
theorem q1e:MdlOK Try.prog 42 qu0:=jv Try.func42 rfl quz (.two .z (.two (.two .z (.s 0)) .z)) (sC q4r s0)
def qgo:Shp:=⟨[qc7],[]⟩
abbrev qcd:Ctx (Bool):=⟨81,tt,false,false,[],i9 [(38,yq),(39,qre),(40,qlh),(41,qh0),(42,qu0)],jp [au _ 81 [] qq9 (C:=(qL1×qL1×Int×(List af)×Int×Int)) (S:=Int) (fun x=>((x.1.2.1,x.1.2.2.1,x.2.1.1,x.2.1.2.1,x.2.1.2.2.1,(pe3 x.2.1)),(pe3 x.1))) qq8 (CE:=(qL1×qL1×Int×(List af)×Int×Int)) (E:=Unit) (fun c e=>(((),c.1,c.2.1,()),((c.2.2.1,(pe3 c),(pe4 c),(pf5 c),()),()))) (fun c=>(c.1,c.2.1,c.2.2.1,(pe3 c),(pe4 c),(pf5 c))) (fun{R} c a nx dn rt=>nw c.1 c.2.1 c.2.2.1 (pe3 c) (pe4 c) (pf5 c) a nx dn rt),au _ 81 [] qrb (C:=(qL1×qL1×Int×(List af)×Int×Int)) (S:=Int) (fun x=>((x.1.2.1,x.1.2.2.1,x.2.1.1,x.2.1.2.1,x.2.1.2.2.1,(pe3 x.2.1)),(pe3 x.1))) qra (CE:=Unit) (E:=Unit) (fun c e=>((()),(()))) (fun c=>()) (fun{R} c a nx dn rt=>rk c.1 c.2.1 c.2.2.1 (pe3 c) (pe4 c) (pf5 c) a nx dn rt)],ck 81 tt [] [.tmp 2] qgo (fun x=>x.1.1)⟩
theorem qcc:CtxM Try.prog qcd:=jw fits mixed (mC yr (mC qzk (mC qtn (mC qh1 (mC q1e m0)))))
theorem qtp:bc Try.prog qcd 1 (lc 2 Try.f12 607):=lp rfl qcc .z s0 (fun c a=>(((),c.1,c.2.1,a,()),((c.2.2.1,(pe3 c),(pe4 c),(pf5 c),()),()))) (fun y=>((),()))
theorem qto:bc Try.prog qcd 0 (lc 0 Try.f12 303):=lp rfl qcc .z s0 (fun c a=>(((),c.1,c.2.1,a,()),((c.2.2.1,(pe3 c),(pe4 c),(pf5 c),()),()))) (fun y=>((y.1.2.1,y.1.2.2.1,y.2.1.1,y.2.1.2.1,y.2.1.2.2.1,(pe3 y.2.1)),()))
abbrev qi7:Mdl:=(ay (.cons (.d false az.ty) .nil) [] [] 1 qgo (B:=Bool) (fun b=>((b,()),(()))) (fun a=>o4 a.1.1))
theorem qrc:MdlOK Try.prog 12 qi7:=jv Try.func12 rfl qcc (.two .z (.two .z (.two .z (.two (.d [0,1,0,4,15,31] [] []) (.two (.two .z (.s 0)) (.two (.two .z (.s 1)) .z)))))) (sC qto (sC qtp s0))
def qut:Shp:=⟨[jtt],[]⟩
abbrev q8w:Ctx (qL1):=⟨13,tt,false,false,[],i9 [],jp [],ck 13 tt [] [.tmp 4] qut (fun x=>x.1.1)⟩
theorem q8v:CtxM Try.prog q8w:=jw fits mixed m0
abbrev qo2:Mdl:=(ay (.cons (.d false az.ty) (.cons (.d false qT0) .nil)) [] [] 1 qut (B:=qL1) (fun b=>((b,()),(()))) (fun a=>qdb a.1.1 a.1.2.1))
theorem qq3:MdlOK Try.prog 15 qo2:=jv Try.func15 rfl q8v .z s0
def qi4:Shp:=⟨[qc7],[]⟩
abbrev qlf:Ctx (Bool):=⟨29,tt,false,false,[],i9 [],jp [au _ 29 [] qtk (C:=qL1) (S:=Int) (fun x=>(x.1.1,x.1.2.1)) qtj (CE:=Unit) (E:=Unit) (fun c e=>((()),(()))) (fun c=>()) (fun{R} c a nx dn rt=>tp c a nx dn rt)],ck 29 tt [] [.tmp 4] qi4 (fun x=>x.1.1)⟩
theorem qle:CtxM Try.prog qlf:=jw fits mixed m0
theorem qv8:bc Try.prog qlf 0 (lc 0 Try.f56 75):=lp rfl qle .z s0 (fun c a=>((c,a,()),(()))) (fun y=>((),()))
abbrev qed:Mdl:=(ay (.cons (.d false az.ty) (.cons (.d false qT1) .nil)) [] [] 1 qi4 (B:=Bool) (fun b=>((b,()),(()))) (fun a=>rb a.1.1 a.1.2.1))
theorem qgl:MdlOK Try.prog 56 qed:=jv Try.func56 rfl qle (.two .z (.two .z (.two (.two .z (.s 0)) .z))) (sC qv8 s0)
def quq:Shp:=⟨[qc7],[]⟩
abbrev qy5:Ctx (Bool):=⟨32,tt,false,false,[],i9 [],jp [au _ 32 [] q4h (C:=(qL1×Int×Int×(List af)×Int×Int)) (S:=Int) (fun x=>((x.1.1,x.1.2.1,x.2.1.1,x.2.1.2.1,x.2.1.2.2.1,(pe3 x.2.1)),(pe3 x.1))) q4g (CE:=Unit) (E:=Unit) (fun c e=>((()),(()))) (fun c=>()) (fun{R} c a nx dn rt=>yn c.1 c.2.1 c.2.2.1 (pe3 c) (pe4 c) (pf5 c) a nx dn rt)],ck 32 tt [] [.tmp 6] quq (fun x=>x.1.1)⟩
theorem qy3:CtxM Try.prog qy5:=jw fits mixed m0
theorem q65:bc Try.prog qy5 0 (lc 0 Try.f91 37):=lp rfl qy3 .z s0 (fun c a=>((c.1,c.2.1,(),a,()),((c.2.2.1,(pe3 c),(pe4 c),(pf5 c),()),()))) (fun y=>((),()))
abbrev qy4:Mdl:=(ay (.cons (.d false az.ty) (.cons (.d false qT1) (.cons (.d false qT0) .nil))) [] [] 1 quq (B:=Bool) (fun b=>((b,()),(()))) (fun a=>ql5 a.1.1 a.1.2.1 a.1.2.2.1))
theorem q4i:MdlOK Try.prog 91 qy4:=jv Try.func91 rfl qy3 (.two .z (.two (.two .z (.s 0)) .z)) (sC q65 s0)
def qq2:Shp:=⟨[jfg,q5d],[qmd]⟩
abbrev qld:Ctx ((Int×qL1)):=⟨112,tt,false,false,[],i9 [(38,yq),(56,qed),(91,qy4)],jp [au _ 112 [] q02 (C:=(Int×Int×(List af)×Int×Int)) (S:=(Int×qL1)) (fun x=>((x.1.1,x.2.1.1,x.2.1.2.1,x.2.1.2.2.1,(pe3 x.2.1)),((pe3 x.1),x.2.2.1))) q01 (CE:=(Int×Int×(List af)×Int×Int)) (E:=qL1) (fun c e=>((c.1,(),(),()),((c.2.1,c.2.2.1,(pe3 c),(pf4 c),()),e,()))) (fun c=>(c.1,c.2.1,c.2.2.1,(pe3 c),(pf4 c))) (fun{R} c a nx dn rt=>qa0 c.1 c.2.1 c.2.2.1 (pe3 c) (pf4 c) a.1 a.2 nx dn rt),au _ 112 [] q04 (C:=(Int×Int×(List af)×Int×Int)) (S:=(Int×qL1)) (fun x=>((x.1.1,x.2.1.1,x.2.1.2.1,x.2.1.2.2.1,(pe3 x.2.1)),((pe3 x.1),x.2.2.1))) q03 (CE:=(Int×(List af)×Int×Int)) (E:=qL1) (fun c e=>(((),(),()),((c.1,c.2.1,c.2.2.1,c.2.2.2,()),e,()))) (fun c=>(c.2.1,c.2.2.1,(pe3 c),(pf4 c))) (fun{R} c a nx dn rt=>qa1 c.1 c.2.1 c.2.2.1 (pe3 c) (pf4 c) a.1 a.2 nx dn rt)],ck 112 tt [] [.tmp 6, .tmp 7] qq2 (fun x=>(x.1.2.1,x.2.1))⟩
theorem qlb:CtxM Try.prog qld:=jw fits mixed (mC yr (mC qgl (mC q4i m0)))
theorem q4k:bc Try.prog qld 1 (lc 2 Try.f70 1215):=lp rfl qlb (.two .z (.two (.one (.d [0,0,2,0,14,30,62,0,254,510,0,0,2048,0,14336,30720,63488,0,260096,522240,1047552,2096128,4193280,8388607,16777215] [24] [])) .z)) s0 (fun c a=>((c.1,(),(),a.1,()),((c.2.1,c.2.2.1,(pe3 c),(pf4 c),()),a.2,()))) (fun y=>((y.2.1.1,y.2.1.2.1,y.2.1.2.2.1,(pe3 y.2.1)),y.2.2.1))
theorem q4j:bc Try.prog qld 0 (lc 0 Try.f70 607):=lp rfl qlb (.two .z (.two (.one (.d [0,0,2,0,14,30,62,0,254,510,0,0,2048,0,14336,30720,63488,0,260096,522240,1047552,2096128,4193280,8388607,16777215] [24] [])) .z)) s0 (fun c a=>((c.1,(),(),a.1,()),((c.2.1,c.2.2.1,(pe3 c),(pf4 c),()),a.2,()))) (fun y=>((y.1.1,y.2.1.1,y.2.1.2.1,y.2.1.2.2.1,(pe3 y.2.1)),y.2.2.1))
abbrev qlc:Mdl:=(ay (.cons (.d false az.ty) (.cons (.d false qT1) (.cons (.d false qT0) .nil))) [] [] 2 qq2 (B:=(Int×qL1)) (fun b=>(((),b.1,()),(b.2,()))) (fun a=>mw a.1.1 a.1.2.1 a.1.2.2.1))
theorem qnu:MdlOK Try.prog 70 qlc:=jv Try.func70 rfl qlb (.two .z (.two .z (.two .z (.two .z (.two .z (.two (.two .z (.s 0)) (.two (.two .z (.s 1)) .z))))))) (sC q4j (sC q4k s0))
def zj:Shp:=⟨[qc7],[]⟩
abbrev qkc:Ctx (Bool):=⟨9,tt,false,false,[],i9 [],jp [],ck 9 tt [] [.tmp 3] zj (fun x=>x.1.1)⟩
theorem qkb:CtxM Try.prog qkc:=jw fits mixed m0
abbrev qbi:Mdl:=(ay (.cons (.d false ae.ty) (.cons (.rp false (.slice .str)) .nil)) [] [] 1 zj (B:=Bool) (fun b=>((b,()),(()))) (fun a=>ui a.1.1 a.1.2.1))
theorem qhr:MdlOK Try.prog 61 qbi:=jv Try.func61 rfl qkb .z s0
def d8:Shp:=⟨[qxg],[]⟩
abbrev em:Ctx (Int):=⟨19,tt,false,false,[],i9 [(61,qbi)],jp [au _ 19 [] j4 (C:=((List ae)×(List ByteArray)×Int)) (S:=Int) (fun x=>((x.1.1,x.1.2.1.1,x.1.2.2.1),(pe3 x.1))) j3 (CE:=Unit) (E:=Unit) (fun c e=>((()),(()))) (fun c=>()) (fun{R} c a nx dn rt=>bq c.1 c.2.1 c.2.2 a nx dn rt)],ck 19 tt [] [.tmp 4] d8 (fun x=>x.1.1)⟩
theorem eh:CtxM Try.prog em:=jw fits mixed (mC qhr m0)
theorem kc:bc Try.prog em 0 (lc 0 Try.f60 37):=lp rfl eh .z s0 (fun c a=>((c.1,(c.2.1,()),c.2.2,a,()),(()))) (fun y=>((),()))
abbrev ek:Mdl:=(ay (.cons (.d false (.slice ae.ty)) (.cons (.fn 61 (.cons (.rp false (.slice .str)) .nil)) .nil)) [] [] 1 d8 (B:=Int) (fun b=>((b,()),(()))) (fun a=>bz a.1.1 a.1.2.1.1))
theorem j5:MdlOK Try.prog 60 ek:=jv Try.func60 rfl eh (.two .z (.two (.two .z (.s 0)) .z)) (sC kc s0)
def qck:Shp:=⟨[qc7,(1, .d true qT1),q48],[]⟩
abbrev qoj:Ctx ((Bool×qL1×Int)):=⟨48,tt,false,false,[],i9 [(58,qdu),(59,wc),(60,ek)],jp [],ck 48 tt [] [.tmp 8, .tmp 9, .tmp 10] qck (fun x=>(x.1.1,x.1.2.1,x.1.2.2.1))⟩
theorem qoi:CtxM Try.prog qoj:=jw fits mixed (mC qf4 (mC qbm (mC j5 m0)))
abbrev qdr:Mdl:=(ay (.cons (.d false az.ty) (.cons (.d false az.ty) (.cons (.d false qT1) (.cons (.d false qT0) .nil)))) [] [] 3 qck (B:=(Bool×qL1×Int)) (fun b=>((b.1,b.2.1,b.2.2,()),(()))) (fun a=>il a.1.1 a.1.2.1 a.1.2.2.1 (pe3 a.1)))
theorem qkd:MdlOK Try.prog 27 qdr:=jv Try.func27 rfl qoi (.two .z (.two .z (.two .z (.two .z (.two (.two .z (.two .z (.two (.two (.d [0,0,3,7,15,0,63,127] [] []) .z) .z))) .z))))) s0
def quv:Shp:=⟨[jtt,q5d,q48],[]⟩
abbrev qza:Ctx ((qL1×Int×Int)):=⟨52,tt,false,false,[],i9 [(38,yq),(56,qed),(70,qlc)],jp [au _ 52 [] q4o (C:=(qL1×Int×(List af)×Int×Int)) (S:=(qL1×Int)) (fun x=>((x.1.1,x.2.1.1,x.2.1.2.1,x.2.1.2.2.1,(pe3 x.2.1)),(x.1.2.2.1,(pe3 x.1)))) q4n (CE:=qL1) (E:=qL1) (fun c e=>((c,e,()),(()))) (fun c=>c.1) (fun{R} c a nx dn rt=>yo c.1 c.2.1 c.2.2.1 (pe3 c) (pf4 c) a.1 a.2 nx dn rt)],ck 52 tt [] [.tmp 6, .tmp 7, .tmp 8] quv (fun x=>(x.1.1,x.1.2.1,x.1.2.2.1))⟩
theorem qy8:CtxM Try.prog qza:=jw fits mixed (mC yr (mC qgl (mC qnu m0)))
theorem q67:bc Try.prog qza 0 (lc 0 Try.f62 303):=lp rfl qy8 (.two .z (.two (.one (.two (.d [0,0,0,0,12,28,63,127,255,255,511,2047] [] []) .z)) .z)) s0 (fun c a=>((c.1,(),a.1,a.2,()),((c.2.1,c.2.2.1,(pe3 c),(pf4 c),()),()))) (fun y=>(y.1.1,y.1.2.1))
abbrev qy9:Mdl:=(ay (.cons (.d false az.ty) (.cons (.d false qT1) (.cons (.d false qT1) .nil))) [] [] 3 quv (B:=(qL1×Int×Int)) (fun b=>((b.1,b.2.1,b.2.2,()),(()))) (fun a=>ql6 a.1.1 a.1.2.1 a.1.2.2.1))
theorem q4p:MdlOK Try.prog 62 qy9:=jv Try.func62 rfl qy8 (.two .z (.two .z (.two .z (.two .z (.two (.two .z (.s 0)) .z))))) (sC q67 s0)
def qq7:Shp:=⟨[jub,q5d],[q49]⟩
abbrev quy:Ctx ((Int×(List ByteArray))):=⟨58,tt,false,false,[],i9 [(38,yq)],jp [au _ 58 [] q07 (C:=(qL1×Int×(List af)×Int×Int)) (S:=(Int×(List ByteArray))) (fun x=>((x.1.1,x.2.1.1,x.2.1.2.1,x.2.1.2.2.1,(pe3 x.2.1)),((pe3 x.1),x.2.2.1))) q06 (CE:=Unit) (E:=(List ByteArray)) (fun c e=>(((),()),(e,()))) (fun c=>()) (fun{R} c a nx dn rt=>qa3 c.1 c.2.1 c.2.2.1 (pe3 c) (pf4 c) a.1 a.2 nx dn rt)],ck 58 tt [] [.tmp 4, .tmp 5] qq7 (fun x=>(x.1.2.1,x.2.1))⟩
theorem quw:CtxM Try.prog quy:=jw fits mixed (mC yr m0)
theorem q4q:bc Try.prog quy 0 (lc 0 Try.f63 303):=lp rfl quw (.two .z (.two (.one (.two (.two (.d [0,0,3,7,15,31,63,63,255,511,63,1087,3135,8191,16383] [] []) .z) (.two (.d [0,1,0,0,12,28,63,127,255,511] [] []) (.two (.d [0,0,2,0,0,24,56,126,254,510,1022,2047,4095] [11,12] []) .z)))) .z)) s0 (fun c a=>((c.1,(),(),a.1,()),((c.2.1,c.2.2.1,(pe3 c),(pf4 c),()),a.2,()))) (fun y=>((),y.2.1))
abbrev qux:Mdl:=(ay (.cons (.d false az.ty) (.cons (.d false qT1) .nil)) [] [] 2 qq7 (B:=(Int×(List ByteArray))) (fun b=>(((),b.1,()),(b.2,()))) (fun a=>qh2 a.1.1 a.1.2.1))
theorem q08:MdlOK Try.prog 63 qux:=jv Try.func63 rfl quw (.two .z (.two .z (.two .z (.two .z (.two (.two .z (.s 0)) .z))))) (sC q4q s0)
def qja:Shp:=⟨[jtt,jww,jmr],[q49]⟩
abbrev qzm:Ctx ((qL1×Bool×(List ByteArray))):=⟨33,tt,false,false,[],i9 [(15,qo2),(62,qy9),(63,qux)],jp [],ck 33 tt [] [.tmp 4, .tmp 5, .tmp 6] qja (fun x=>(x.1.1,x.1.2.2.1,x.2.1))⟩
theorem qzl:CtxM Try.prog qzm:=jw fits mixed (mC qq3 (mC q4p (mC q08 m0)))
abbrev qll:Mdl:=(ay (.cons (.d false az.ty) (.cons (.d false qT1) .nil)) [] [] 3 qja (B:=(qL1×Bool×(List ByteArray))) (fun b=>((b.1,(),b.2.1,()),(b.2.2,()))) (fun a=>qa5 a.1.1 a.1.2.1))
theorem qtq:MdlOK Try.prog 29 qll:=jv Try.func29 rfl qzl (.two .z (.two (.d [0,0,0,4,14,0,63,127,255,255,255,511,3071,8191] [] []) .z)) s0
def qj4:Shp:=⟨[qxg],[]⟩
abbrev qz4:Ctx (Int):=⟨35,tt,false,false,[],i9 [(12,qi7),(29,qll)],jp [],ck 35 tt [] [.tmp 8] qj4 (fun x=>x.1.1)⟩
theorem qz3:CtxM Try.prog qz4:=jw fits mixed (mC qrc (mC qtq m0))
abbrev qm9:Mdl:=(ay (.cons (.d false az.ty) (.cons (.d false az.ty) (.cons (.d false qT1) (.cons (.d false qT0) .nil)))) [] [] 1 qj4 (B:=Int) (fun b=>((b,()),(()))) (fun a=>xz a.1.1 a.1.2.1 a.1.2.2.1 (pe3 a.1)))
theorem qvf:MdlOK Try.prog 28 qm9:=jv Try.func28 rfl qz3 .z s0
def qj7:Shp:=⟨[qc7],[]⟩
abbrev q0a:Ctx (Bool):=⟨7,tt,false,false,[],i9 [(19,eu)],jp [],ck 7 tt [] [.tmp 3] qj7 (fun x=>x.1.1)⟩
theorem qz9:CtxM Try.prog q0a:=jw fits mixed (mC fb m0)
abbrev qna:Mdl:=(ay (.cons (.d false qT1) (.cons (.rp false qT1) .nil)) [] [] 1 qj7 (B:=Bool) (fun b=>((b,()),(()))) (fun a=>qho a.1.1 a.1.2.1))
theorem qvg:MdlOK Try.prog 71 qna:=jv Try.func71 rfl qz9 .z s0
def pk:Shp:=⟨[qxg],[]⟩
abbrev qr:Ctx (Int):=⟨19,tt,false,false,[],i9 [(71,qna)],jp [au _ 19 [] qaj (C:=(qL2×qL1×Int)) (S:=Int) (fun x=>((x.1.1,x.1.2.1.1,x.1.2.2.1),(pe3 x.1))) qai (CE:=Unit) (E:=Unit) (fun c e=>((()),(()))) (fun c=>()) (fun{R} c a nx dn rt=>f8 c.1 c.2.1 c.2.2 a nx dn rt)],ck 19 tt [] [.tmp 4] pk (fun x=>x.1.1)⟩
theorem qp:CtxM Try.prog qr:=jw fits mixed (mC qvg m0)
theorem qbv:bc Try.prog qr 0 (lc 0 Try.f55 37):=lp rfl qp .z s0 (fun c a=>((c.1,(c.2.1,()),c.2.2,a,()),(()))) (fun y=>((),()))
abbrev qq:Mdl:=(ay (.cons (.d false qT2) (.cons (.fn 71 (.cons (.rp false qT1) .nil)) .nil)) [] [] 1 pk (B:=Int) (fun b=>((b,()),(()))) (fun a=>lw a.1.1 a.1.2.1.1))
theorem qak:MdlOK Try.prog 55 qq:=jv Try.func55 rfl qp (.two .z (.two (.two .z (.s 0)) .z)) (sC qbv s0)
def n4:Shp:=⟨[qc7],[]⟩
abbrev za:Ctx (Bool):=⟨9,tt,false,false,[],i9 [(55,qq)],jp [],ck 9 tt [] [.tmp 4] n4 (fun x=>x.1.1)⟩
theorem y9:CtxM Try.prog za:=jw fits mixed (mC qak m0)
abbrev ol:Mdl:=(ay (.cons (.d false qT2) (.cons (.fn 71 (.cons (.rp false qT1) .nil)) .nil)) [] [] 1 n4 (B:=Bool) (fun b=>((b,()),(()))) (fun a=>fx a.1.1 a.1.2.1.1))
theorem xm:MdlOK Try.prog 20 ol:=jv Try.func20 rfl y9 .z s0
def qp4:Shp:=⟨[qc7],[]⟩
abbrev qj6:Ctx (Bool):=⟨57,tt,false,true,[],i9 [(15,qo2),(70,qlc),(20,ol)],jp [au _ 57 [] qz6 (C:=(Int×Int×Int×(List af)×Int×Int)) (S:=(Int×qL2)) (fun x=>((x.1.2.2.1,(pe3 x.1),x.2.1.1,x.2.1.2.1,x.2.1.2.2.1,(pe3 x.2.1)),((pe4 x.1),x.2.2.1))) qz5 (CE:=(Int×Int×(List af)×Int×Int)) (E:=qL2) (fun c e=>(((),(),c.1,()),((c.2.1,c.2.2.1,(pe3 c),(pf4 c),()),e,()))) (fun c=>(c.1,c.2.2.1,(pe3 c),(pe4 c),(pf5 c))) (fun{R} c a nx dn rt=>qw c.1 c.2.1 c.2.2.1 (pe3 c) (pe4 c) (pf5 c) a.1 a.2 nx dn rt),au _ 57 [] qz8 (C:=(Int×(List af)×Int×Int)) (S:=(Int×qL2)) (fun x=>((x.2.1.1,x.2.1.2.1,x.2.1.2.2.1,(pe3 x.2.1)),(x.1.2.2.1,x.2.2.1))) qz7 (CE:=Unit) (E:=qL2) (fun c e=>(((),()),(e,()))) (fun c=>()) (fun{R} c a nx dn rt=>qx c.1 c.2.1 c.2.2.1 c.2.2.2 a.1 a.2 nx dn rt)],ck 57 tt [] [.tmp 2] qp4 (fun x=>x.1.1)⟩
theorem qj5:CtxM Try.prog qj6:=jw fits mixed (mC qq3 (mC qnu (mC xm m0)))
theorem q3n:bc Try.prog qj6 0 (lc 2 Try.f32 4683):=lp rfl qj5 (.two .z (.two .z (.two (.one (.two .z (.two (.d [0,0,0,6,14,0,63,127,255,255,0,1535,4095] [11] []) .z))) .z))) s0 (fun c a=>(((),(),c.1,c.2.1,a.1,()),((c.2.2.1,(pe3 c),(pe4 c),(pf5 c),()),a.2,()))) (fun y=>((y.1.2.2.1,y.2.1.1,y.2.1.2.1,y.2.1.2.2.1,(pe3 y.2.1)),y.2.2.1))
theorem q3o:bc Try.prog qj6 1 (lc 0 Try.f32 75):=lp rfl qj5 (.two .z (.two (.one (.two .z (.s 0))) .z)) (sC q3n s0) (fun c a=>(((),(),a.1,()),((c.1,c.2.1,c.2.2.1,c.2.2.2,()),a.2,()))) (fun y=>((),y.2.1))
abbrev qt8:Mdl:=(ay (.cons (.d false az.ty) .nil) [] [] 1 qp4 (B:=Bool) (fun b=>((b,()),(()))) (fun a=>qhn a.1.1))
theorem q0b:MdlOK Try.prog 32 qt8:=jv Try.func32 rfl qj5 (.two .z (.two .z (.two (.two .z (.s 1)) .z))) (sC q3o s0)
def qcj:Shp:=⟨[qc7],[]⟩
abbrev qod:Ctx (Bool):=⟨65,tt,false,false,[],i9 [(8,qp1),(9,qp5),(10,quc),(28,qm9),(31,qfl),(13,qdq),(27,qdr),(32,qt8)],jp [],ck 65 tt [] [.tmp 4] qcj (fun x=>x.1.1)⟩
theorem qob:CtxM Try.prog qod:=jw fits mixed (mC qxp (mC qxs (mC q0f (mC qvf (mC qik (mC qf1 (mC qkd (mC q0b m0))))))))
abbrev qoc:Mdl:=(ay (.cons (.d true az.ty) (.cons (.d true qT1) .nil)) [] [] 1 qcj (B:=Bool) (fun b=>((b,()),(()))) (fun a=>xy a.1.1 a.1.2.1))
theorem qj2:MdlOK Try.prog 7 qoc:=jv Try.func7 rfl qob .z s0
end
end Go.Proofs.Ytdhfhpdadbopkaa
