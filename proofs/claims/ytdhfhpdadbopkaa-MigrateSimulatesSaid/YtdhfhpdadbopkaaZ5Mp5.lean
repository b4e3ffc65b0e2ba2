/-
  The functions compute what their models say. Made by program (mg3.py) out of the translation.
-/
import Derived.Test.YtdhfhpdadbopkaaZ5Md
import Derived.Test.YtdhfhpdadbopkaaZ5Tt
import Derived.Test.YtdhfhpdadbopkaaZ5Ky
set_option linter.all false
set_option maxRecDepth 100000
namespace Go.Proofs.Ytdhfhpdadbopkaa
open Go.K Go.M
abbrev pe3{A0 A1 A2 A3 A4:Type}(x:A0×A1×A2×A3×A4):A3:=x.2.2.2.1
abbrev pe4{A0 A1 A2 A3 A4 A5:Type}(x:A0×A1×A2×A3×A4×A5):A4:=x.2.2.2.2.1
abbrev pe5{A0 A1 A2 A3 A4 A5 A6:Type}(x:A0×A1×A2×A3×A4×A5×A6):A5:=x.2.2.2.2.2.1
abbrev pe6{A0 A1 A2 A3 A4 A5 A6 A7:Type}(x:A0×A1×A2×A3×A4×A5×A6×A7):A6:=x.2.2.2.2.2.2.1
abbrev pe7{A0 A1 A2 A3 A4 A5 A6 A7 A8:Type}(x:A0×A1×A2×A3×A4×A5×A6×A7×A8):A7:=x.2.2.2.2.2.2.2.1
abbrev pe8{A0 A1 A2 A3 A4 A5 A6 A7 A8 A9:Type}(x:A0×A1×A2×A3×A4×A5×A6×A7×A8×A9):A8:=x.2.2.2.2.2.2.2.2.1
abbrev pe9{A0 A1 A2 A3 A4 A5 A6 A7 A8 A9 A10:Type}(x:A0×A1×A2×A3×A4×A5×A6×A7×A8×A9×A10):A9:=x.2.2.2.2.2.2.2.2.2.1
abbrev pe10{A0 A1 A2 A3 A4 A5 A6 A7 A8 A9 A10 A11:Type}(x:A0×A1×A2×A3×A4×A5×A6×A7×A8×A9×A10×A11):A10:=x.2.2.2.2.2.2.2.2.2.2.1
abbrev pe11{A0 A1 A2 A3 A4 A5 A6 A7 A8 A9 A10 A11 A12:Type}(x:A0×A1×A2×A3×A4×A5×A6×A7×A8×A9×A10×A11×A12):A11:=x.2.2.2.2.2.2.2.2.2.2.2.1
abbrev pe12{A0 A1 A2 A3 A4 A5 A6 A7 A8 A9 A10 A11 A12 A13:Type}(x:A0×A1×A2×A3×A4×A5×A6×A7×A8×A9×A10×A11×A12×A13):A12:=x.2.2.2.2.2.2.2.2.2.2.2.2.1
abbrev pe13{A0 A1 A2 A3 A4 A5 A6 A7 A8 A9 A10 A11 A12 A13 A14:Type}(x:A0×A1×A2×A3×A4×A5×A6×A7×A8×A9×A10×A11×A12×A13×A14):A13:=x.2.2.2.2.2.2.2.2.2.2.2.2.2.1
abbrev pe14{A0 A1 A2 A3 A4 A5 A6 A7 A8 A9 A10 A11 A12 A13 A14 A15:Type}(x:A0×A1×A2×A3×A4×A5×A6×A7×A8×A9×A10×A11×A12×A13×A14×A15):A14:=x.2.2.2.2.2.2.2.2.2.2.2.2.2.2.1
abbrev pf4{A0 A1 A2 A3 A4:Type}(x:A0×A1×A2×A3×A4):A4:=x.2.2.2.2
abbrev pf5{A0 A1 A2 A3 A4 A5:Type}(x:A0×A1×A2×A3×A4×A5):A5:=x.2.2.2.2.2
abbrev pf6{A0 A1 A2 A3 A4 A5 A6:Type}(x:A0×A1×A2×A3×A4×A5×A6):A6:=x.2.2.2.2.2.2
abbrev pf7{A0 A1 A2 A3 A4 A5 A6 A7:Type}(x:A0×A1×A2×A3×A4×A5×A6×A7):A7:=x.2.2.2.2.2.2.2
abbrev pf8{A0 A1 A2 A3 A4 A5 A6 A7 A8:Type}(x:A0×A1×A2×A3×A4×A5×A6×A7×A8):A8:=x.2.2.2.2.2.2.2.2
abbrev pf9{A0 A1 A2 A3 A4 A5 A6 A7 A8 A9:Type}(x:A0×A1×A2×A3×A4×A5×A6×A7×A8×A9):A9:=x.2.2.2.2.2.2.2.2.2
abbrev pf10{A0 A1 A2 A3 A4 A5 A6 A7 A8 A9 A10:Type}(x:A0×A1×A2×A3×A4×A5×A6×A7×A8×A9×A10):A10:=x.2.2.2.2.2.2.2.2.2.2
abbrev pf11{A0 A1 A2 A3 A4 A5 A6 A7 A8 A9 A10 A11:Type}(x:A0×A1×A2×A3×A4×A5×A6×A7×A8×A9×A10×A11):A11:=x.2.2.2.2.2.2.2.2.2.2.2
abbrev pf13{A0 A1 A2 A3 A4 A5 A6 A7 A8 A9 A10 A11 A12 A13:Type}(x:A0×A1×A2×A3×A4×A5×A6×A7×A8×A9×A10×A11×A12×A13):A13:=x.2.2.2.2.2.2.2.2.2.2.2.2.2
abbrev pf15{A0 A1 A2 A3 A4 A5 A6 A7 A8 A9 A10 A11 A12 A13 A14 A15:Type}(x:A0×A1×A2×A3×A4×A5×A6×A7×A8×A9×A10×A11×A12×A13×A14×A15):A15:=x.2.2.2.2.2.2.2.2.2.2.2.2.2.2.2
noncomputable section
def qmq:Shp:=⟨[(0, .d true a8.ty)],[]⟩
abbrev qq8:Ctx (a8):=⟨51,tt,false,false,[],fl [],gb [am _ 51 [] qxa (C:=(ByteArray×(List ByteArray)×Int×Int×(List ae)×Int×Int×Int×Int×Int)) (S:=(Int×(List ae))) (fun x=>((x.1.1,(pe3 x.1),(pe4 x.1),x.2.1.1,x.2.1.2.1,x.2.1.2.2.1,(pe3 x.2.1),x.2.2.1.1,x.2.2.1.2.2.1,(pe3 x.2.2.1)),((pe5 x.1),(pe3 x)))) qw9 (CE:=(ByteArray×Int×(List ae)×Int×Int×Int×Int×Int)) (E:=(List ae)) (fun c e=>((c.1,(),(),()),((c.2.1,c.2.2.1,(pe3 c),(pe4 c),()),((pe5 c),(),(pe6 c),(pf7 c),()),e,()))) (fun c=>(c.1,(pe3 c),(pe4 c),(pe5 c),(pe6 c),(pe7 c),(pe8 c),(pf9 c))) (fun{R} c a nx dn rt=>qj4 c.1 c.2.1 c.2.2.1 (pe3 c) (pe4 c) (pe5 c) (pe6 c) (pe7 c) (pe8 c) (pf9 c) a.1 a.2 nx dn rt)],bp 51 tt [] [.cell 4 24] qmq (fun x=>x.1.1)⟩
theorem qq6:CtxM Try.prog qq8:=gf fits mixed m0
theorem q0k:au Try.prog qq8 0 (lc 0 Try.f33 75):=lp rfl qq6 .z s0 (fun c a=>((c.1,(),(),c.2.1,c.2.2.1,a.1,()),(((pe3 c),(pe4 c),(pe5 c),(pe6 c),()),((pe7 c),(),(pe8 c),(pf9 c),()),a.2,()))) (fun y=>((y.1.1,y.2.1.1,y.2.1.2.1,y.2.1.2.2.1,(pe3 y.2.1),y.2.2.1.1,y.2.2.1.2.2.1,(pe3 y.2.2.1)),(pe3 y)))
abbrev qq7:Mdl:=(aq (.cons (.d false .str) (.cons (.d false (.slice .str)) .nil)) [] [] 1 qmq (B:=a8) (fun b=>((b,()),(()))) (fun a=>qk9 a.1.1 a.1.2.1))
theorem qxb:MdlOK Try.prog 33 qq7:=gc Try.func33 rfl qq6 (.two .z (.two .z (.two (.two .z (.s 0)) .z))) (sC q0k s0)
def qka:Shp:=⟨[qiu],[]⟩
abbrev q0r:Ctx (Bool):=⟨17,tt,false,false,[],fl [],gb [],bp 17 tt [] [.tmp 2] qka (fun x=>x.1.1)⟩
theorem q0q:CtxM Try.prog q0r:=gf fits mixed m0
abbrev qe1:Mdl:=(aq (.cons (.d false (.int .u8)) .nil) [] [] 1 qka (B:=Bool) (fun b=>((b,()),(()))) (fun a=>yb a.1.1))
theorem qhv:MdlOK Try.prog 119 qe1:=gc Try.func119 rfl q0q .z s0
def qrb:Shp:=⟨[qiu],[]⟩
abbrev q4u:Ctx (Bool):=⟨25,tt,false,false,[],fl [(119,qe1)],gb [],bp 25 tt [] [.tmp 2] qrb (fun x=>x.1.1)⟩
theorem q4t:CtxM Try.prog q4u:=gf fits mixed (mC qhv m0)
abbrev qva:Mdl:=(aq (.cons (.d false (.int .u8)) .nil) [] [] 1 qrb (B:=Bool) (fun b=>((b,()),(()))) (fun a=>qi1 a.1.1))
theorem q0s:MdlOK Try.prog 120 qva:=gc Try.func120 rfl q4t .z s0
def qj9:Shp:=⟨[qiu],[]⟩
abbrev qm0:Ctx (Bool):=⟨29,tt,false,false,[],fl [(119,qe1),(120,qva)],gb [am _ 29 [] qu8 (C:=(ByteArray×Int)) (S:=Int) (fun x=>((x.1.1,x.1.2.1),x.1.2.2.1)) qu7 (CE:=Unit) (E:=Unit) (fun c e=>((()),(()))) (fun c=>()) (fun{R} c a nx dn rt=>oz c.1 c.2 a nx dn rt)],bp 29 tt [] [.tmp 2] qj9 (fun x=>x.1.1)⟩
theorem qmy:CtxM Try.prog qm0:=gf fits mixed (mC qhv (mC q0s m0))
theorem qxn:au Try.prog qm0 0 (lc 0 Try.f108 75):=lp rfl qmy .z s0 (fun c a=>((c.1,c.2,a,()),(()))) (fun y=>((),()))
abbrev qmz:Mdl:=(aq (.cons (.d false .str) .nil) [] [] 1 qj9 (B:=Bool) (fun b=>((b,()),(()))) (fun a=>qb5 a.1.1))
theorem qu9:MdlOK Try.prog 108 qmz:=gc Try.func108 rfl qmy (.two .z (.two .z (.two (.two .z (.s 0)) .z))) (sC qxn s0)
def qh3:Shp:=⟨[qiu],[]⟩
abbrev qkk:Ctx (Bool):=⟨36,tt,false,false,[],fl [],gb [am _ 36 [] qsr (C:=(qL1×qL1×Int×Int×(List ae)×Int×Int)) (S:=Int) (fun x=>((x.1.1,x.1.2.2.1,(pe3 x.1),x.2.1.1,x.2.1.2.1,x.2.1.2.2.1,(pe3 x.2.1)),(pe4 x.1))) qsq (CE:=Unit) (E:=Unit) (fun c e=>((()),(()))) (fun c=>()) (fun{R} c a nx dn rt=>kz c.1 c.2.1 c.2.2.1 (pe3 c) (pe4 c) (pe5 c) (pf6 c) a nx dn rt)],bp 36 tt [] [.tmp 4] qh3 (fun x=>x.1.1)⟩
theorem qki:CtxM Try.prog qkk:=gf fits mixed m0
theorem qvq:au Try.prog qkk 0 (lc 0 Try.f109 37):=lp rfl qki .z s0 (fun c a=>((c.1,(),c.2.1,c.2.2.1,a,()),(((pe3 c),(pe4 c),(pe5 c),(pf6 c),()),()))) (fun y=>((),()))
abbrev qkj:Mdl:=(aq (.cons (.d false a8.ty) (.cons (.d false qT1) .nil)) [] [] 1 qh3 (B:=Bool) (fun b=>((b,()),(()))) (fun a=>jf a.1.1 a.1.2.1))
theorem qss:MdlOK Try.prog 109 qkj:=gc Try.func109 rfl qki (.two .z (.two (.two .z (.s 0)) .z)) (sC qvq s0)
def qkf:Shp:=⟨[qiu],[]⟩
abbrev qm8:Ctx (Bool):=⟨62,tt,false,false,[],fl [(108,qmz),(109,qkj)],gb [am _ 62 [] qvk (C:=((List ae)×Int×Int×(List ae)×Int×Int)) (S:=Int) (fun x=>((x.1.2.1,x.1.2.2.1,x.2.1.1,x.2.1.2.1,x.2.1.2.2.1,(pe3 x.2.1)),(pe3 x.1))) qvj (CE:=(Int×(List ae)×Int×Int)) (E:=Unit) (fun c e=>(((),()),((c.1,c.2.1,c.2.2.1,c.2.2.2,()),()))) (fun c=>(c.2.2.1,(pe3 c),(pe4 c),(pf5 c))) (fun{R} c a nx dn rt=>ul c.1 c.2.1 c.2.2.1 (pe3 c) (pe4 c) (pf5 c) a nx dn rt)],bp 62 tt [] [.tmp 2] qkf (fun x=>x.1.1)⟩
theorem qm7:CtxM Try.prog qm8:=gf fits mixed (mC qu9 (mC qss m0))
theorem qxp:au Try.prog qm8 0 (lc 0 Try.f85 75):=lp rfl qm7 .z s0 (fun c a=>(((),c.1,c.2.1,a,()),((c.2.2.1,(pe3 c),(pe4 c),(pf5 c),()),()))) (fun y=>((y.2.1.1,y.2.1.2.1,y.2.1.2.2.1,(pe3 y.2.1)),()))
abbrev um:Mdl:=(aq (.cons (.d false a8.ty) .nil) [] [] 1 qkf (B:=Bool) (fun b=>((b,()),(()))) (fun a=>o4 a.1.1))
theorem uo:MdlOK Try.prog 85 um:=gc Try.func85 rfl qm7 (.two .z (.two .z (.two (.two .z (.s 0)) .z))) (sC qxp s0)
def vg:Shp:=⟨[qw4],[]⟩
abbrev wd:Ctx (Int):=⟨19,tt,false,false,[],fl [],gb [am _ 19 [] qef (C:=(qL1×Int×Int)) (S:=Int) (fun x=>((x.1.1,x.1.2.1,x.1.2.2.1),(pe3 x.1))) qee (CE:=Unit) (E:=Unit) (fun c e=>((()),(()))) (fun c=>()) (fun{R} c a nx dn rt=>il c.1 c.2.1 c.2.2 a nx dn rt)],bp 19 tt [] [.tmp 4] vg (fun x=>x.1.1)⟩
theorem wb:CtxM Try.prog wd:=gf fits mixed m0
theorem qfe:au Try.prog wd 0 (lc 0 Try.f115 37):=lp rfl wb .z s0 (fun c a=>((c.1,c.2.1,c.2.2,a,()),(()))) (fun y=>((),()))
abbrev wc:Mdl:=(aq (.cons (.d false qT1) (.cons (.d false qT0) .nil)) [] [] 1 vg (B:=Int) (fun b=>((b,()),(()))) (fun a=>pg a.1.1 a.1.2.1))
theorem qeg:MdlOK Try.prog 115 wc:=gc Try.func115 rfl wb (.two .z (.two (.two .z (.s 0)) .z)) (sC qfe s0)
def qk:Shp:=⟨[qiu],[]⟩
abbrev qcs:Ctx (Bool):=⟨9,tt,false,false,[],fl [(115,wc)],gb [],bp 9 tt [] [.tmp 4] qk (fun x=>x.1.1)⟩
theorem qcr:CtxM Try.prog qcs:=gf fits mixed (mC qeg m0)
abbrev rq:Mdl:=(aq (.cons (.d false qT1) (.cons (.d false qT0) .nil)) [] [] 1 qk (B:=Bool) (fun b=>((b,()),(()))) (fun a=>ew a.1.1 a.1.2.1))
theorem qbi:MdlOK Try.prog 100 rq:=gc Try.func100 rfl qcr .z s0
def qb9:Shp:=⟨[qiu],[]⟩
abbrev qqb:Ctx (Bool):=⟨8,tt,false,false,[],fl [],gb [],bp 8 tt [] [.tmp 3] qb9 (fun x=>x.1.1)⟩
theorem qqa:CtxM Try.prog qqb:=gf fits mixed m0
abbrev qdu:Mdl:=(aq (.cons (.d false qT0) (.cons (.rp false (.slice .bool)) .nil)) [] [] 1 qb9 (B:=Bool) (fun b=>((b,()),(()))) (fun a=>r0 a.1.1 a.1.2.1))
theorem qly:MdlOK Try.prog 116 qdu:=gc Try.func116 rfl qqa .z s0
def mq:Shp:=⟨[qw4],[]⟩
abbrev m4:Ctx (Int):=⟨19,tt,false,false,[],fl [(116,qdu)],gb [am _ 19 [] vy (C:=(qL1×(List Bool)×Int)) (S:=Int) (fun x=>((x.1.1,x.1.2.1.1,x.1.2.2.1),(pe3 x.1))) vx (CE:=Unit) (E:=Unit) (fun c e=>((()),(()))) (fun c=>()) (fun{R} c a nx dn rt=>dk c.1 c.2.1 c.2.2 a nx dn rt)],bp 19 tt [] [.tmp 4] mq (fun x=>x.1.1)⟩
theorem m2:CtxM Try.prog m4:=gf fits mixed (mC qly m0)
theorem wx:au Try.prog m4 0 (lc 0 Try.f110 37):=lp rfl m2 .z s0 (fun c a=>((c.1,(c.2.1,()),c.2.2,a,()),(()))) (fun y=>((),()))
abbrev m3:Mdl:=(aq (.cons (.d false qT1) (.cons (.fn 116 (.cons (.rp false (.slice .bool)) .nil)) .nil)) [] [] 1 mq (B:=Int) (fun b=>((b,()),(()))) (fun a=>iq a.1.1 a.1.2.1.1))
theorem vz:MdlOK Try.prog 110 m3:=gc Try.func110 rfl m2 (.two .z (.two (.two .z (.s 0)) .z)) (sC wx s0)
def kj:Shp:=⟨[qiu],[]⟩
abbrev vb:Ctx (Bool):=⟨9,tt,false,false,[],fl [(110,m3)],gb [],bp 9 tt [] [.tmp 4] kj (fun x=>x.1.1)⟩
theorem va:CtxM Try.prog vb:=gf fits mixed (mC vz m0)
abbrev lh:Mdl:=(aq (.cons (.d false qT1) (.cons (.fn 116 (.cons (.rp false (.slice .bool)) .nil)) .nil)) [] [] 1 kj (B:=Bool) (fun b=>((b,()),(()))) (fun a=>ce a.1.1 a.1.2.1.1))
theorem sn:MdlOK Try.prog 86 lh:=gc Try.func86 rfl va .z s0
def qf8:Shp:=⟨[jie,(1, .own 1)],[qtl,qtl]⟩
abbrev us:Ctx (((List Bool)×(List Bool))):=⟨69,tt,false,false,[],fl [(86,lh)],gb [am _ 69 [] qp5 (C:=(Bool×Bool×(List ae)×Int×Int×qL1×Int×Int×(List ae)×Int×Int×(List Bool))) (S:=(Int×(List Bool))) (fun x=>((x.1.1,(pe4 x.1),(pe5 x.1),(pe6 x.1),(pe7 x.1),(pe8 x.1),(pe9 x.1),x.2.1.1,x.2.1.2.1,x.2.1.2.2.1,(pe3 x.2.1),(pe3 x)),((pe10 x.1),(pe4 x)))) qp4 (CE:=(Bool×Bool×(List ae)×Int×Int×Int×(List ae)×Int×Int×(List Bool))) (E:=(List Bool)) (fun c e=>((c.1,(),(),(),c.2.1,c.2.2.1,(pe3 c),(pe4 c),()),(((pe5 c),(pe6 c),(pe7 c),(pe8 c),()),((),()),(pf9 c),e,()))) (fun c=>(c.1,c.2.1,c.2.2.1,(pe3 c),(pe4 c),(pe7 c),(pe8 c),(pe9 c),(pe10 c),(pf11 c))) (fun{R} c a nx dn rt=>pt c.1 c.2.1 c.2.2.1 (pe3 c) (pe4 c) (pe5 c) (pe6 c) (pe7 c) (pe8 c) (pe9 c) (pe10 c) (pf11 c) a.1 a.2 nx dn rt),am _ 69 [] qp7 (C:=(Bool×(List ae)×Int×Int×(List ae)×Int×Int)) (S:=(Bool×Int×(List Bool)×(List Bool))) (fun x=>((x.1.1,(pe5 x.1),(pe6 x.1),x.2.1.1,x.2.1.2.1,x.2.1.2.2.1,(pe3 x.2.1)),((pe4 x.1),(pe7 x.1),(pe3 x),(pe4 x)))) qp6 (CE:=(Bool×Int×(List ae)×Int×Int)) (E:=(Bool×(List Bool)×(List Bool))) (fun c e=>((c.1,(),(),(),e.1,()),((c.2.1,c.2.2.1,(pe3 c),(pf4 c),()),((),()),e.2.1,e.2.2,()))) (fun c=>(c.1,(pe3 c),(pe4 c),(pe5 c),(pf6 c))) (fun{R} c a nx dn rt=>er c.1 c.2.1 c.2.2.1 (pe3 c) (pe4 c) (pe5 c) (pf6 c) a.1 a.2.1 a.2.2.1 a.2.2.2 nx dn rt),am _ 69 [] qp9 (C:=(Bool×Int×(List ae)×Int×Int)) (S:=(Bool×(List Bool)×(List Bool))) (fun x=>((x.1.1,x.2.1.1,x.2.1.2.1,x.2.1.2.2.1,(pe3 x.2.1)),((pe4 x.1),(pe3 x),(pe4 x)))) qp8 (CE:=Unit) (E:=((List Bool)×(List Bool))) (fun c e=>(((),(),()),(((),()),e.1,e.2,()))) (fun c=>()) (fun{R} c a nx dn rt=>wo c.1 c.2.1 c.2.2.1 (pe3 c) (pf4 c) a.1 a.2.1 a.2.2 nx dn rt)],bp 69 tt [] [.tmp 6, .tmp 7] qf8 (fun x=>(x.2.1,x.2.2.1))⟩
theorem ur:CtxM Try.prog us:=gf fits mixed (mC sn m0)
theorem qst:au Try.prog us 0 (lc 4 Try.f101 41838231):=lp rfl ur .z s0 (fun c a=>((c.1,(),(),(),c.2.1,c.2.2.1,(pe3 c),(pe4 c),(pe5 c),(pe6 c),a.1,()),(((pe7 c),(pe8 c),(pe9 c),(pe10 c),()),((),()),(pf11 c),a.2,()))) (fun y=>((y.1.1,(pe4 y.1),(pe5 y.1),(pe6 y.1),(pe7 y.1),y.2.1.1,y.2.1.2.1,y.2.1.2.2.1,(pe3 y.2.1),(pe3 y)),(pe4 y)))
theorem qsu:au Try.prog us 1 (lc 2 Try.f101 9879):=lp rfl ur (.two .z (.two .z (.two (.one (.two .z (.two (.d [0,1,0,4,3,31] [] []) (.two .z (.two .z (.two .z (.two .z (.s 0)))))))) .z))) (sC qst s0) (fun c a=>((c.1,(),(),(),a.1,c.2.1,c.2.2.1,a.2.1,()),(((pe3 c),(pe4 c),(pe5 c),(pf6 c),()),((),()),a.2.2.1,a.2.2.2,()))) (fun y=>((y.1.1,y.2.1.1,y.2.1.2.1,y.2.1.2.2.1,(pe3 y.2.1)),((pe4 y.1),(pe3 y),(pe4 y))))
theorem qsv:au Try.prog us 2 (lc 0 Try.f101 151):=lp rfl ur (.two .z (.one (.two .z (.two .z (.s 1))))) (sC qsu s0) (fun c a=>((c.1,(),(),(),a.1,()),((c.2.1,c.2.2.1,(pe3 c),(pf4 c),()),((),()),a.2.1,a.2.2,()))) (fun y=>((),(y.2.2.1,(pe3 y))))
abbrev qh4:Mdl:=(aq (.cons (.d false a8.ty) (.cons (.d false qT0) (.cons (.d false .bool) .nil))) [] [] 2 qf8 (B:=((List Bool)×(List Bool))) (fun b=>(((),(),()),(b.1,b.2,()))) (fun a=>l6 a.1.1 a.1.2.1 a.1.2.2.1))
theorem qqc:MdlOK Try.prog 101 qh4:=gc Try.func101 rfl ur (.two .z (.two (.d [0,1,3,0,8,24,56,0,135,511] [8] []) (.two .z (.two (.two .z (.s 2)) .z)))) (sC qsv s0)
def rv:Shp:=⟨[qw4],[]⟩
abbrev tk:Ctx (Int):=⟨19,tt,false,false,[],fl [],gb [am _ 19 [] qbp (C:=((List Bool)×Bool×Int)) (S:=Int) (fun x=>((x.1.1,x.1.2.1,x.1.2.2.1),(pe3 x.1))) qbo (CE:=Unit) (E:=Unit) (fun c e=>((()),(()))) (fun c=>()) (fun{R} c a nx dn rt=>fv c.1 c.2.1 c.2.2 a nx dn rt)],bp 19 tt [] [.tmp 4] rv (fun x=>x.1.1)⟩
theorem th:CtxM Try.prog tk:=gf fits mixed m0
theorem qct:au Try.prog tk 0 (lc 0 Try.f117 37):=lp rfl th .z s0 (fun c a=>((c.1,c.2.1,c.2.2,a,()),(()))) (fun y=>((),()))
abbrev tj:Mdl:=(aq (.cons (.d false (.slice .bool)) (.cons (.d false .bool) .nil)) [] [] 1 rv (B:=Int) (fun b=>((b,()),(()))) (fun a=>nm a.1.1 a.1.2.1))
theorem qbq:MdlOK Try.prog 117 tj:=gc Try.func117 rfl th (.two .z (.two (.two .z (.s 0)) .z)) (sC qct s0)
def oj:Shp:=⟨[qiu],[]⟩
abbrev qbh:Ctx (Bool):=⟨9,tt,false,false,[],fl [(117,tj)],gb [],bp 9 tt [] [.tmp 4] oj (fun x=>x.1.1)⟩
theorem qbg:CtxM Try.prog qbh:=gf fits mixed (mC qbq m0)
abbrev pb:Mdl:=(aq (.cons (.d false (.slice .bool)) (.cons (.d false .bool) .nil)) [] [] 1 oj (B:=Bool) (fun b=>((b,()),(()))) (fun a=>bu a.1.1 a.1.2.1))
theorem zb:MdlOK Try.prog 102 pb:=gc Try.func102 rfl qbg .z s0
def qdp:Shp:=⟨[qiu],[]⟩
abbrev yz:Ctx (Bool):=⟨65,tt,false,false,[],fl [(85,um),(100,rq),(101,qh4),(102,pb)],gb [am _ 65 [] qnb (C:=((List ae)×Int×Int×(List ae)×Int×Int)) (S:=Int) (fun x=>((x.1.2.1,x.1.2.2.1,x.2.1.1,x.2.1.2.1,x.2.1.2.2.1,(pe3 x.2.1)),(pe3 x.1))) qna (CE:=(Int×(List ae)×Int×Int)) (E:=Unit) (fun c e=>(((),()),((c.1,c.2.1,c.2.2.1,c.2.2.2,()),()))) (fun c=>(c.2.2.1,(pe3 c),(pe4 c),(pf5 c))) (fun{R} c a nx dn rt=>oe c.1 c.2.1 c.2.2.1 (pe3 c) (pe4 c) (pf5 c) a nx dn rt),am _ 65 [] qnd (C:=((List Bool)×Int×Int×(List ae)×Int×Int)) (S:=Int) (fun x=>((x.1.2.1,x.1.2.2.1,x.2.1.1,x.2.1.2.1,x.2.1.2.2.1,(pe3 x.2.1)),(pe3 x.1))) qnc (CE:=Unit) (E:=Unit) (fun c e=>((()),(()))) (fun c=>()) (fun{R} c a nx dn rt=>og c.1 c.2.1 c.2.2.1 (pe3 c) (pe4 c) (pf5 c) a nx dn rt)],bp 65 tt [] [.tmp 2] qdp (fun x=>x.1.1)⟩
theorem yx:CtxM Try.prog yz:=gf fits mixed (mC uo (mC qbi (mC qqc (mC zb m0))))
theorem qpz:au Try.prog yz 1 (lc 2 Try.f76 151):=lp rfl yx .z s0 (fun c a=>(((),c.1,c.2.1,a,()),((c.2.2.1,(pe3 c),(pe4 c),(pf5 c),()),()))) (fun y=>((),()))
theorem qpy:au Try.prog yz 0 (lc 0 Try.f76 75):=lp rfl yx .z s0 (fun c a=>(((),c.1,c.2.1,a,()),((c.2.2.1,(pe3 c),(pe4 c),(pf5 c),()),()))) (fun y=>((y.2.1.1,y.2.1.2.1,y.2.1.2.2.1,(pe3 y.2.1)),()))
abbrev qf4:Mdl:=(aq (.cons (.d false a8.ty) .nil) [] [] 1 qdp (B:=Bool) (fun b=>((b,()),(()))) (fun a=>mh a.1.1))
theorem qne:MdlOK Try.prog 76 qf4:=gc Try.func76 rfl yx (.two .z (.two .z (.two (.two .z (.s 0)) (.two (.two .z (.s 1)) .z)))) (sC qpy (sC qpz s0))
def qhh:Shp:=⟨[qw4],[]⟩
abbrev qxj:Ctx (Int):=⟨13,tt,false,false,[],fl [(76,qf4)],gb [],bp 13 tt [] [.tmp 4] qhh (fun x=>x.1.1)⟩
theorem qxi:CtxM Try.prog qxj:=gf fits mixed (mC qne m0)
abbrev xh:Mdl:=(aq (.cons (.d false a8.ty) (.cons (.d false a8.ty) .nil)) [] [] 1 qhh (B:=Int) (fun b=>((b,()),(()))) (fun a=>ug a.1.1 a.1.2.1))
theorem yt:MdlOK Try.prog 43 xh:=gc Try.func43 rfl qxi .z s0
def qrj:Shp:=⟨[jie,q8h],[qmk]⟩
abbrev q44:Ctx ((Int×qL1)):=⟨17,tt,false,false,[],fl [(85,um)],gb [],bp 17 tt [] [.tmp 4, .tmp 5] qrj (fun x=>(x.1.2.1,x.2.1))⟩
theorem q43:CtxM Try.prog q44:=gf fits mixed (mC uo m0)
abbrev qlx:Mdl:=(aq (.cons (.d false a8.ty) (.cons (.d false qT0) .nil)) [] [] 2 qrj (B:=(Int×qL1)) (fun b=>(((),b.1,()),(b.2,()))) (fun a=>qdt a.1.1 a.1.2.1))
theorem qni:MdlOK Try.prog 104 qlx:=gc Try.func104 rfl q43 .z s0
def qf3:Shp:=⟨[jsl,q8h],[]⟩
abbrev qvf:Ctx ((qL1×Int)):=⟨10,tt,false,false,[],fl [(104,qlx)],gb [],bp 10 tt [] [.tmp 2, .tmp 3] qf3 (fun x=>(x.1.1,x.1.2.1))⟩
theorem qve:CtxM Try.prog qvf:=gf fits mixed (mC qni m0)
abbrev qa8:Mdl:=(aq (.cons (.d false a8.ty) .nil) [] [] 2 qf3 (B:=(qL1×Int)) (fun b=>((b.1,b.2,()),(()))) (fun a=>qco a.1.1))
theorem qdm:MdlOK Try.prog 79 qa8:=gc Try.func79 rfl qve .z s0
def qb8:Shp:=⟨[qiu],[]⟩
abbrev qp3:Ctx (Bool):=⟨9,tt,false,false,[],fl [],gb [],bp 9 tt [] [.tmp 2] qb8 (fun x=>x.1.1)⟩
theorem qp2:CtxM Try.prog qp3:=gf fits mixed m0
abbrev qds:Mdl:=(aq (.cons (.d false qT0) .nil) [] [] 1 qb8 (B:=Bool) (fun b=>((b,()),(()))) (fun a=>y4 a.1.1))
theorem qlw:MdlOK Try.prog 87 qds:=gc Try.func87 rfl qp2 .z s0
def m6:Shp:=⟨[qw4],[]⟩
abbrev n5:Ctx (Int):=⟨19,tt,false,false,[],fl [(87,qds)],gb [am _ 19 [] wz (C:=(qL1×Int)) (S:=Int) (fun x=>((x.1.1,x.1.2.2.1),(pe3 x.1))) wy (CE:=Unit) (E:=Unit) (fun c e=>((()),(()))) (fun c=>()) (fun{R} c a nx dn rt=>d7 c.1 c.2 a nx dn rt)],bp 19 tt [] [.tmp 4] m6 (fun x=>x.1.1)⟩
theorem nz:CtxM Try.prog n5:=gf fits mixed (mC qlw m0)
theorem yk:au Try.prog n5 0 (lc 0 Try.f110 37):=lp rfl nz .z s0 (fun c a=>((c.1,(()),c.2,a,()),(()))) (fun y=>((),()))
abbrev n4:Mdl:=(aq (.cons (.d false qT1) (.cons (.fn 87 .nil) .nil)) [] [] 1 m6 (B:=Int) (fun b=>((b,()),(()))) (fun a=>jh a.1.1))
theorem w9:MdlOK Try.prog 110 n4:=gc Try.func110 rfl nz (.two .z (.two (.two .z (.s 0)) .z)) (sC yk s0)
def li:Shp:=⟨[qiu],[]⟩
abbrev vk:Ctx (Bool):=⟨9,tt,false,false,[],fl [(110,n4)],gb [],bp 9 tt [] [.tmp 4] li (fun x=>x.1.1)⟩
theorem vj:CtxM Try.prog vk:=gf fits mixed (mC w9 m0)
abbrev l8:Mdl:=(aq (.cons (.d false qT1) (.cons (.fn 87 .nil) .nil)) [] [] 1 li (B:=Bool) (fun b=>((b,()),(()))) (fun a=>dz a.1.1))
theorem tl:MdlOK Try.prog 86 l8:=gc Try.func86 rfl vj .z s0
def qf6:Shp:=⟨[qiu],[]⟩
abbrev qvp:Ctx (Bool):=⟨19,tt,false,false,[],fl [(85,um),(86,l8)],gb [],bp 19 tt [] [.tmp 4] qf6 (fun x=>x.1.1)⟩
theorem qvo:CtxM Try.prog qvp:=gf fits mixed (mC uo (mC tl m0))
abbrev uq:Mdl:=(aq (.cons (.d false a8.ty) (.cons (.d false qT1) .nil)) [] [] 1 qf6 (B:=Bool) (fun b=>((b,()),(()))) (fun a=>l5 a.1.1 a.1.2.1))
theorem wn:MdlOK Try.prog 49 uq:=gc Try.func49 rfl qvo .z s0
def rg:Shp:=⟨[jie],[qmk]⟩
abbrev qd8:Ctx (qL1):=⟨8,tt,false,false,[],fl [],gb [],bp 8 tt [] [.tmp 2] rg (fun x=>x.2.1)⟩
theorem qd6:CtxM Try.prog qd8:=gf fits mixed m0
abbrev qd7:Mdl:=(aq (.cons (.nl false (.d false qT1)) .nil) [] [] 1 rg (B:=qL1) (fun b=>(((),()),(b,()))) (fun a=>u6 a.1.1))
theorem qbm:MdlOK Try.prog 50 qd7:=gc Try.func50 rfl qd6 .z s0
def l7:Shp:=⟨[jie],[qmk]⟩
abbrev qeb:Ctx (qL1):=⟨8,tt,false,false,[],fl [],gb [],bp 8 tt [] [.tmp 2] l7 (fun x=>x.2.1)⟩
theorem qd9:CtxM Try.prog qeb:=gf fits mixed m0
abbrev qea:Mdl:=(aq (.cons (.nl true (.d false qT1)) .nil) [] [] 1 l7 (B:=qL1) (fun b=>(((),()),(b,()))) (fun a=>jg a.1.1))
theorem qbn:MdlOK Try.prog 50 qea:=gc Try.func50 rfl qd9 .z s0
abbrev fx:Mdl:=(aq (.cons (.d false qT1) .nil) [] [] 1 l7 (fun(b:qL1)=>(((),()),(b,()))) (fun(a:((qL1×Unit)×(Unit)))=>br a.1.1))
theorem ig:MdlOK Try.prog 50 fx:=by
 refine q7y (jcl _ _) qbm qbn (by kernel_rfl) (fun a b h=>⟨?_,h⟩);obtain⟨⟨xs,u1⟩,u2⟩:=a;cases xs with
 |nil=>exact h
 |cons x l=>
  have e:decide ((((x::l).length:Nat):Int)=0)=false:=decide_eq_false (by simp only[List.length_cons];omega);simp only[br,jg]at h;simp only[u6,e,cond_false];exact h
def qb7:Shp:=⟨[qiu],[]⟩
abbrev qp1:Ctx (Bool):=⟨9,tt,false,false,[],fl [],gb [],bp 9 tt [] [.tmp 3] qb7 (fun x=>x.1.1)⟩
theorem qp0:CtxM Try.prog qp1:=gf fits mixed m0
abbrev qdq:Mdl:=(aq (.cons (.d false qT0) (.cons (.rp false qT1) .nil)) [] [] 1 qb7 (B:=Bool) (fun b=>((b,()),(()))) (fun a=>y3 a.1.1 a.1.2.1))
theorem qlv:MdlOK Try.prog 111 qdq:=gc Try.func111 rfl qp0 .z s0
def mn:Shp:=⟨[qw4],[]⟩
abbrev mz:Ctx (Int):=⟨19,tt,false,false,[],fl [(111,qdq)],gb [am _ 19 [] vp (C:=(qL1×qL1×Int)) (S:=Int) (fun x=>((x.1.1,x.1.2.1.1,x.1.2.2.1),(pe3 x.1))) vm (CE:=Unit) (E:=Unit) (fun c e=>((()),(()))) (fun c=>()) (fun{R} c a nx dn rt=>dj c.1 c.2.1 c.2.2 a nx dn rt)],bp 19 tt [] [.tmp 4] mn (fun x=>x.1.1)⟩
theorem mw:CtxM Try.prog mz:=gf fits mixed (mC qlv m0)
theorem wv:au Try.prog mz 0 (lc 0 Try.f110 37):=lp rfl mw .z s0 (fun c a=>((c.1,(c.2.1,()),c.2.2,a,()),(()))) (fun y=>((),()))
abbrev my:Mdl:=(aq (.cons (.d false qT1) (.cons (.fn 111 (.cons (.rp false qT1) .nil)) .nil)) [] [] 1 mn (B:=Int) (fun b=>((b,()),(()))) (fun a=>io a.1.1 a.1.2.1.1))
theorem vq:MdlOK Try.prog 110 my:=gc Try.func110 rfl mw (.two .z (.two (.two .z (.s 0)) .z)) (sC wv s0)
def kh:Shp:=⟨[qiu],[]⟩
abbrev u9:Ctx (Bool):=⟨9,tt,false,false,[],fl [(110,my)],gb [],bp 9 tt [] [.tmp 4] kh (fun x=>x.1.1)⟩
theorem u7:CtxM Try.prog u9:=gf fits mixed (mC vq m0)
abbrev lg:Mdl:=(aq (.cons (.d false qT1) (.cons (.fn 111 (.cons (.rp false qT1) .nil)) .nil)) [] [] 1 kh (B:=Bool) (fun b=>((b,()),(()))) (fun a=>fo a.1.1 a.1.2.1.1))
theorem sm:MdlOK Try.prog 86 lg:=gc Try.func86 rfl u7 .z s0
def qf5:Shp:=⟨[qiu],[]⟩
abbrev qvn:Ctx (Bool):=⟨10,tt,false,false,[],fl [(86,lg)],gb [],bp 10 tt [] [.tmp 4] qf5 (fun x=>x.1.1)⟩
theorem qvm:CtxM Try.prog qvn:=gf fits mixed (mC sm m0)
abbrev qa9:Mdl:=(aq (.cons (.d false ae.ty) (.cons (.d false qT1) .nil)) [] [] 1 qf5 (B:=Bool) (fun b=>((b,()),(()))) (fun a=>rf a.1.1 a.1.2.1))
theorem qdr:MdlOK Try.prog 88 qa9:=gc Try.func88 rfl qvm .z s0
def ym:Shp:=⟨[qw4],[]⟩
abbrev zx:Ctx (Int):=⟨25,tt,false,false,[],fl [],gb [am _ 25 [] qgv (C:=qL1) (S:=(Int×Int)) (fun x=>(x.1.1,(x.1.2.1,x.1.2.2.1))) qgu (CE:=Unit) (E:=Int) (fun c e=>((e,()),(()))) (fun c=>()) (fun{R} c a nx dn rt=>kf c a.1 a.2 nx dn rt)],bp 25 tt [] [.tmp 2] ym (fun x=>x.1.1)⟩
theorem zt:CtxM Try.prog zx:=gf fits mixed m0
theorem qiq:au Try.prog zx 0 (lc 0 Try.f89 151):=lp rfl zt .z s0 (fun c a=>((c,a.1,a.2,()),(()))) (fun y=>((),y.1.1))
abbrev zw:Mdl:=(aq (.cons (.d false qT1) .nil) [] [] 1 ym (B:=Int) (fun b=>((b,()),(()))) (fun a=>np a.1.1))
theorem qgw:MdlOK Try.prog 89 zw:=gc Try.func89 rfl zt (.two .z (.two .z (.two .z (.two (.two .z (.s 0)) .z)))) (sC qiq s0)
def qnh:Shp:=⟨[jie,q8h],[qmk]⟩
abbrev qh1:Ctx ((Int×qL1)):=⟨66,tt,false,false,[],fl [(88,qa9),(50,fx),(89,zw)],gb [am _ 66 [] qxu (C:=(qL1×Int×ByteArray×qL1×qL1)) (S:=(Int×qL1)) (fun x=>((x.1.2.2.1,(pe3 x.1),x.2.1.1,x.2.1.2.1,x.2.1.2.2.1),((pe4 x.1),x.2.2.1))) qxt (CE:=(ByteArray×qL1×qL1)) (E:=qL1) (fun c e=>(((),(),()),((c.1,c.2.1,c.2.2,()),e,()))) (fun c=>(c.2.2.1,(pe3 c),(pf4 c))) (fun{R} c a nx dn rt=>xj c.1 c.2.1 c.2.2.1 (pe3 c) (pf4 c) a.1 a.2 nx dn rt),am _ 66 [] qxw (C:=(qL1×Int)) (S:=(Int×qL1)) (fun x=>((x.1.2.1,x.1.2.2.1),((pe3 x.1),x.2.1))) qxv (CE:=Unit) (E:=qL1) (fun c e=>(((),()),(e,()))) (fun c=>()) (fun{R} c a nx dn rt=>xk c.1 c.2 a.1 a.2 nx dn rt)],bp 66 tt [] [.tmp 6, .tmp 7] qnh (fun x=>(x.1.2.1,x.2.1))⟩
theorem qhz:CtxM Try.prog qh1:=gf fits mixed (mC qdr (mC ig (mC qgw m0)))
theorem q06:au Try.prog qh1 1 (lc 2 Try.f51 1215):=lp rfl qhz .z s0 (fun c a=>(((),c.1,c.2,a.1,()),(a.2,()))) (fun y=>((),y.2.1))
theorem q05:au Try.prog qh1 0 (lc 0 Try.f51 607):=lp rfl qhz .z s0 (fun c a=>(((),(),c.1,c.2.1,a.1,()),((c.2.2.1,(pe3 c),(pf4 c),()),a.2,()))) (fun y=>((y.2.1.1,y.2.1.2.1,y.2.1.2.2.1),y.2.2.1))
abbrev qh0:Mdl:=(aq (.cons (.d false a8.ty) (.cons (.d false qT1) (.cons (.d false qT0) .nil))) [] [] 2 qnh (B:=(Int×qL1)) (fun b=>(((),b.1,()),(b.2,()))) (fun a=>qe3 a.1.1 a.1.2.1 a.1.2.2.1))
theorem qkh:MdlOK Try.prog 51 qh0:=gc Try.func51 rfl qhz (.two .z (.two .z (.two .z (.two .z (.two .z (.two (.two .z (.s 0)) (.two (.two .z (.s 1)) .z))))))) (sC q05 (sC q06 s0))
def qrf:Shp:=⟨[jsl,q8h,q7l],[]⟩
abbrev qvi:Ctx ((qL1×Int×Int)):=⟨48,tt,false,false,[],fl [(49,uq),(50,fx),(51,qh0)],gb [am _ 48 [] q01 (C:=(qL1×qL1×Int×Int×(List ae)×Int×Int)) (S:=(qL1×Int)) (fun x=>((x.1.1,(pe3 x.1),(pe4 x.1),x.2.1.1,x.2.1.2.1,x.2.1.2.2.1,(pe3 x.2.1)),(x.1.2.2.1,(pe5 x.1)))) q00 (CE:=qL1) (E:=qL1) (fun c e=>((c,e,()),(()))) (fun c=>c.1) (fun{R} c a nx dn rt=>qm6 c.1 c.2.1 c.2.2.1 (pe3 c) (pe4 c) (pe5 c) (pf6 c) a.1 a.2 nx dn rt)],bp 48 tt [] [.tmp 6, .tmp 7, .tmp 8] qrf (fun x=>(x.1.1,x.1.2.1,x.1.2.2.1))⟩
theorem qvg:CtxM Try.prog qvi:=gf fits mixed (mC wn (mC ig (mC qkh m0)))
theorem q3b:au Try.prog qvi 0 (lc 1 Try.f14 151):=lp rfl qvg .z s0 (fun c a=>((c.1,(),a.1,c.2.1,c.2.2.1,a.2,()),(((pe3 c),(pe4 c),(pe5 c),(pf6 c),()),()))) (fun y=>(y.1.1,y.1.2.1))
abbrev qvh:Mdl:=(aq (.cons (.d false a8.ty) (.cons (.d false qT1) (.cons (.d false qT1) .nil))) [] [] 3 qrf (B:=(qL1×Int×Int)) (fun b=>((b.1,b.2.1,b.2.2,()),(()))) (fun a=>qy8 a.1.1 a.1.2.1 a.1.2.2.1))
theorem q02:MdlOK Try.prog 14 qvh:=gc Try.func14 rfl qvg (.two .z (.two .z (.two .z (.two (.two .z (.s 0)) .z)))) (sC q3b s0)
def qm9:Shp:=⟨[jsb,q8h],[jo7]⟩
abbrev qri:Ctx ((Int×(List ByteArray))):=⟨47,tt,false,false,[],fl [(85,um)],gb [am _ 47 [] qxr (C:=(qL1×Int×Int×(List ae)×Int×Int)) (S:=(Int×(List ByteArray))) (fun x=>((x.1.2.2.1,(pe3 x.1),x.2.1.1,x.2.1.2.1,x.2.1.2.2.1,(pe3 x.2.1)),((pe4 x.1),x.2.2.1))) qxq (CE:=Unit) (E:=(List ByteArray)) (fun c e=>(((),()),(e,()))) (fun c=>()) (fun{R} c a nx dn rt=>qkg c.1 c.2.1 c.2.2.1 (pe3 c) (pe4 c) (pf5 c) a.1 a.2 nx dn rt)],bp 47 tt [] [.tmp 4, .tmp 5] qm9 (fun x=>(x.1.2.1,x.2.1))⟩
theorem qrg:CtxM Try.prog qri:=gf fits mixed (mC uo m0)
theorem q04:au Try.prog qri 0 (lc 1 Try.f80 151):=lp rfl qrg .z s0 (fun c a=>(((),(),c.1,c.2.1,a.1,()),((c.2.2.1,(pe3 c),(pe4 c),(pf5 c),()),a.2,()))) (fun y=>((),y.2.1))
abbrev qrh:Mdl:=(aq (.cons (.d false a8.ty) (.cons (.d false qT1) .nil)) [] [] 2 qm9 (B:=(Int×(List ByteArray))) (fun b=>(((),b.1,()),(b.2,()))) (fun a=>qvl a.1.1 a.1.2.1))
theorem qxs:MdlOK Try.prog 80 qrh:=gc Try.func80 rfl qrg (.two .z (.two .z (.two .z (.two (.two .z (.s 0)) .z)))) (sC q04 s0)
def qby:Shp:=⟨[jsl,(1, .nl false (.own 0)),jpj],[jo7]⟩
abbrev qpd:Ctx ((qL1×Bool×(List ByteArray))):=⟨37,tt,false,false,[],fl [(79,qa8),(14,qvh),(80,qrh)],gb [],bp 37 tt [] [.tmp 4, .tmp 5, .tmp 6] qby (fun x=>(x.1.1,x.1.2.2.1,x.2.1))⟩
theorem qpc:CtxM Try.prog qpd:=gf fits mixed (mC qdm (mC q02 (mC qxs m0)))
abbrev wj:Mdl:=(aq (.cons (.d false a8.ty) (.cons (.d false qT1) .nil)) [] [] 3 qby (B:=(qL1×Bool×(List ByteArray))) (fun b=>((b.1,(),b.2.1,()),(b.2.2,()))) (fun a=>ry a.1.1 a.1.2.1))
theorem qav:MdlOK Try.prog 45 wj:=gc Try.func45 rfl qpc .z s0
def qfu:Shp:=⟨[jsl,(1, .nl false (.own 0)),q7l],[jo7]⟩
abbrev qu1:Ctx ((qL1×Int×(List ByteArray))):=⟨40,tt,false,false,[],fl [(43,xh),(45,wj)],gb [],bp 40 tt [] [.tmp 8, .tmp 9, .tmp 10] qfu (fun x=>(x.1.1,x.1.2.2.1,x.2.1))⟩
theorem qu0:CtxM Try.prog qu1:=gf fits mixed (mC yt (mC qav m0))
abbrev qhg:Mdl:=(aq (.cons (.d false a8.ty) (.cons (.d false a8.ty) (.cons (.d false qT1) (.cons (.d false qT0) .nil)))) [] [] 3 qfu (B:=(qL1×Int×(List ByteArray))) (fun b=>((b.1,(),b.2.1,()),(b.2.2,()))) (fun a=>qj7 a.1.1 a.1.2.1 a.1.2.2.1 (pe3 a.1)))
theorem qpb:MdlOK Try.prog 58 qhg:=gc Try.func58 rfl qu0 .z s0
def qxh:Shp:=⟨[jpl],[]⟩
abbrev z7:Mdl:=(aq (.cons (.d false qT1) .nil) [] [] 1 qxh (B:=ByteArray) (fun b=>((b,()),(()))) (fun a=>k8 a.1.1))
theorem qa1:MdlOK Try.prog 93 z7:=jb3 _
def qm5:Shp:=⟨[jie,q8h],[qmk]⟩
abbrev q29:Ctx ((Int×qL1)):=⟨18,tt,false,false,[],fl [(49,uq),(51,qh0)],gb [],bp 18 tt [] [.tmp 6, .tmp 7] qm5 (fun x=>(x.1.2.1,x.2.1))⟩
theorem q28:CtxM Try.prog q29:=gf fits mixed (mC wn (mC qkh m0))
abbrev qre:Mdl:=(aq (.cons (.d false a8.ty) (.cons (.d false qT1) (.cons (.d false qT0) .nil))) [] [] 2 qm5 (B:=(Int×qL1)) (fun b=>(((),b.1,()),(b.2,()))) (fun a=>qa7 a.1.1 a.1.2.1 a.1.2.2.1))
theorem qxo:MdlOK Try.prog 16 qre:=gc Try.func16 rfl q28 .z s0
def qfx:Shp:=⟨[jsb],[jpa]⟩
abbrev qhu:Ctx ((List ag)):=⟨32,tt,false,false,[],fl [(16,qre)],gb [am _ 32 [] qpq (C:=(qL1×Int×Int×(List ae)×Int×Int)) (S:=(Int×(List ag))) (fun x=>((x.1.1,(pe3 x.1),x.2.1.1,x.2.1.2.1,x.2.1.2.2.1,(pe3 x.2.1)),((pe4 x.1),x.2.2.1))) qpp (CE:=Unit) (E:=(List ag)) (fun c e=>(((),()),(e,()))) (fun c=>()) (fun{R} c a nx dn rt=>po c.1 c.2.1 c.2.2.1 (pe3 c) (pe4 c) (pf5 c) a.1 a.2 nx dn rt)],bp 32 tt [] [.tmp 4] qfx (fun x=>x.2.1)⟩
theorem qht:CtxM Try.prog qhu:=gf fits mixed (mC qxo m0)
theorem qso:au Try.prog qhu 0 (lc 0 Try.f94 75):=lp rfl qht .z s0 (fun c a=>((c.1,(),(),c.2.1,a.1,()),((c.2.2.1,(pe3 c),(pe4 c),(pf5 c),()),a.2,()))) (fun y=>((),y.2.1))
abbrev oy:Mdl:=(aq (.cons (.d false a8.ty) (.cons (.d false qT1) .nil)) [] [] 1 qfx (B:=(List ag)) (fun b=>(((),()),(b,()))) (fun a=>eh a.1.1 a.1.2.1))
theorem pp:MdlOK Try.prog 94 oy:=gc Try.func94 rfl qht (.two .z (.two .z (.two (.two .z (.s 0)) .z))) (sC qso s0)
def zo:Shp:=⟨[jie,jst],[qta]⟩
abbrev si:Ctx ((Bool×(List af))):=⟨109,tt,false,true,[],fl [(79,qa8),(93,z7),(94,oy),(50,fx)],gb [am _ 109 [] qhk (C:=((List ByteArray)×Int×Int×(List ag)×Int×Int×(List ae)×Int×Int×Int×qL1×qL1)) (S:=(Int×(List af)×(List (ByteArray×Bool)))) (fun x=>((x.1.1,x.1.2.1,(pe5 x.1),(pe7 x.1),(pe8 x.1),x.2.1.1,x.2.1.2.1,x.2.1.2.2.1,(pe3 x.2.1),(pe4 x).1,(pe4 x).2.1,(pe4 x).2.2.1),((pe9 x.1),x.2.2.1,(pe3 x)))) qhj (CE:=((List ByteArray)×Int×Int×Int×(List ae)×Int×Int)) (E:=((List af)×(List (ByteArray×Bool)))) (fun c e=>((c.1,c.2.1,(),(),(),c.2.2.1,()),(((pe3 c),(pe4 c),(pe5 c),(pf6 c),()),e.1,e.2,()))) (fun c=>(c.1,c.2.1,c.2.2.1,(pe5 c),(pe6 c),(pe7 c),(pe8 c))) (fun{R} c a nx dn rt=>x8 c.1 c.2.1 c.2.2.1 (pe3 c) (pe4 c) (pe5 c) (pe6 c) (pe7 c) (pe8 c) (pe9 c) (pe10 c) (pf11 c) a.1 a.2.1 a.2.2 nx dn rt),am _ 109 [] qhm (C:=((List ByteArray)×Int×Int×(List ae)×Int×Int)) (S:=(Int×(List af)×(List (ByteArray×Bool)))) (fun x=>((x.1.1,x.1.2.1,x.2.1.1,x.2.1.2.1,x.2.1.2.2.1,(pe3 x.2.1)),((pe5 x.1),x.2.2.1,(pe3 x)))) qhl (CE:=Unit) (E:=(List af)) (fun c e=>(((),()),(e,()))) (fun c=>()) (fun{R} c a nx dn rt=>x9 c.1 c.2.1 c.2.2.1 (pe3 c) (pe4 c) (pf5 c) a.1 a.2.1 a.2.2 nx dn rt)],bp 109 tt [] [.tmp 6, .tmp 7] zo (fun x=>(x.1.2.1,x.2.1))⟩
theorem sg:CtxM Try.prog si:=gf fits mixed (mC qdm (mC qa1 (mC pp (mC ig m0))))
theorem qjw:au Try.prog si 0 (lc 2 Try.f59 39215):=lp rfl sg (.two .z (.two .z (.two (.one (.two .z (.two (.d [0,1,0,4,0,16,60,124,252,3,1023] [] []) (.two .z (.two .z (.two .z (.two .z (.two .z (.d [0,0,0,4,0,16,48,0,128,384,1008,2046,4094,8191,16383] [10,11,12,13,14] []))))))))) .z))) s0 (fun c a=>((c.1,c.2.1,(),(),(),c.2.2.1,(),(pe3 c),(pe4 c),a.1,()),(((pe5 c),(pe6 c),(pe7 c),(pe8 c),()),a.2.1,a.2.2,((pe9 c),(pe10 c),(pf11 c),()),()))) (fun y=>((y.1.1,y.1.2.1,(pe5 y.1),y.2.1.1,y.2.1.2.1,y.2.1.2.2.1,(pe3 y.2.1)),(y.2.2.1,(pe3 y))))
theorem qjx:au Try.prog si 1 (lc 0 Try.f59 303):=lp rfl sg (.two .z (.two (.one (.two .z (.two .z (.s 0)))) .z)) (sC qjw s0) (fun c a=>((c.1,c.2.1,(),(),(),a.1,()),((c.2.2.1,(pe3 c),(pe4 c),(pf5 c),()),a.2.1,a.2.2,()))) (fun y=>((),y.2.1))
abbrev qa2:Mdl:=(aq (.cons (.d false a8.ty) (.cons (.d false (.slice .str)) (.cons (.d false qT0) .nil))) [] [] 2 zo (B:=(Bool×(List af))) (fun b=>(((),b.1,()),(b.2,()))) (fun a=>qb2 a.1.1 a.1.2.1 a.1.2.2.1))
theorem qhn:MdlOK Try.prog 59 qa2:=gc Try.func59 rfl sg (.two .z (.two .z (.two .z (.two .z (.two (.two .z (.s 1)) .z))))) (sC qjx s0)
def qc8:Shp:=⟨[qiu],[]⟩
abbrev qse:Ctx (Bool):=⟨9,tt,false,false,[],fl [],gb [],bp 9 tt [] [.tmp 3] qc8 (fun x=>x.1.1)⟩
theorem qsd:CtxM Try.prog qse:=gf fits mixed m0
abbrev yr:Mdl:=(aq (.cons (.d false af.ty) (.cons (.rp false (.slice .str)) .nil)) [] [] 1 qc8 (B:=Bool) (fun b=>((b,()),(()))) (fun a=>qas a.1.1 a.1.2.1))
theorem qbw:MdlOK Try.prog 66 yr:=gc Try.func66 rfl qsd .z s0
def cr:Shp:=⟨[qw4],[]⟩
abbrev c0:Ctx (Int):=⟨19,tt,false,false,[],fl [(66,yr)],gb [am _ 19 [] gz (C:=((List af)×(List ByteArray)×Int)) (S:=Int) (fun x=>((x.1.1,x.1.2.1.1,x.1.2.2.1),(pe3 x.1))) gv (CE:=Unit) (E:=Unit) (fun c e=>((()),(()))) (fun c=>()) (fun{R} c a nx dn rt=>ck c.1 c.2.1 c.2.2 a nx dn rt)],bp 19 tt [] [.tmp 4] cr (fun x=>x.1.1)⟩
theorem cx:CtxM Try.prog c0:=gf fits mixed (mC qbw m0)
theorem ib:au Try.prog c0 0 (lc 0 Try.f60 37):=lp rfl cx .z s0 (fun c a=>((c.1,(c.2.1,()),c.2.2,a,()),(()))) (fun y=>((),()))
abbrev cz:Mdl:=(aq (.cons (.d false (.slice af.ty)) (.cons (.fn 66 (.cons (.rp false (.slice .str)) .nil)) .nil)) [] [] 1 cr (B:=Int) (fun b=>((b,()),(()))) (fun a=>c8 a.1.1 a.1.2.1.1))
theorem g8:MdlOK Try.prog 60 cz:=gc Try.func60 rfl cx (.two .z (.two (.two .z (.s 0)) .z)) (sC ib s0)
def cj:Shp:=⟨[jie],[qta]⟩
abbrev cq:Ctx ((List af)):=⟨42,tt,false,false,[false],fl [(60,cz),(66,yr)],gb [am _ 42 [false] gi (C:=(List ByteArray)) (S:=(Int×Int×(List af))) (fun x=>(x.1.2.1.1,(x.1.2.2.1,(pe3 x.1),x.2.1))) gh (CE:=Unit) (E:=(Int×(List af))) (fun c e=>(((),e.1,()),(e.2,()))) (fun c=>()) (fun{R} c a nx dn rt=>cg c a.1 a.2.1 a.2.2 nx dn rt)],bp 42 tt [false] [.tmp 4] cj (fun x=>x.2.1)⟩
theorem cn:CtxM Try.prog cq:=gf fits mixed (mC g8 (mC qbw m0))
theorem gu:au Try.prog cq 0 (lc 0 Try.f65 151):=lp rfl cn .z s0 (fun c a=>(((),(c,()),a.1,a.2.1,()),(a.2.2,()))) (fun y=>((),(y.1.2.1,y.2.1)))
abbrev cp:Mdl:=(aq (.cons (.own 0) (.cons (.fn 66 (.cons (.rp false (.slice .str)) .nil)) .nil)) [qta] [false] 1 cj (B:=(List af)) (fun b=>(((),()),(b,()))) (fun a=>cw a.1.2.1.1 a.2.1))
theorem gk:MdlOK Try.prog 65 cp:=gc Try.func65 rfl cn (.two .z (.two .z (.two .z (.two (.two .z (.s 0)) .z)))) (sC gu s0)
def qb3:Shp:=⟨[],[qmi, .cs 38 1 1 (.cons (.own 3) .nil),qoo,qi6]⟩
abbrev qpn:Ctx (((List (ByteArray×Bool))×qL2)):=⟨16,tt,false,false,[true,true,true,false],fl [(93,z7)],gb [],bp 16 tt [true,true,true,false] [] qb3 (fun x=>((pe3 x),(pe4 x)))⟩
theorem qpm:CtxM Try.prog qpn:=gf fits mixed (mC qa1 m0)
abbrev qdg:Mdl:=(aq (.cons (.d true qT1) (.cons (.ptr 0) (.cons (.ptr 1) .nil))) [qmi, .cs 38 1 1 (.cons (.own 3) .nil),qoo,qi6] [true,true,true,false] 0 qb3 (B:=((List (ByteArray×Bool))×qL2)) (fun b=>((()),(((),()),((),()),b.1,b.2,()))) (fun a=>yu a.1.1 (pe3 a) (pe4 a)))
theorem qlr:MdlOK Try.prog 95 qdg:=gc Try.func95 rfl qpm (.two (.d [0,0,2,7,15] [] []) (.two (.two (.d [0,0,2,7] [3] []) .z) .z)) s0
def qfv:Shp:=⟨[(0, .own 1),jst],[qi6,qi6]⟩
abbrev ui:Ctx ((Bool×qL2×qL2)):=⟨61,tt,false,false,[true],fl [(95,qdg),(94,oy)],gb [am _ 61 [true] qph (C:=(Int×Int×qL2×Int×(List ae)×Int×Int)) (S:=(Int×qL2×(List (ByteArray×Bool)))) (fun x=>((x.1.1,(pe5 x.1),x.2.1,x.2.2.1.1,x.2.2.1.2.1,x.2.2.1.2.2.1,(pe3 x.2.2.1)),((pe6 x.1),(pe5 x),(pe6 x)))) qpg (CE:=(Int×qL2×Int×(List ae)×Int×Int)) (E:=(qL2×(List (ByteArray×Bool)))) (fun c e=>((c.1,(),(),((),(),()),()),(c.2.1,(c.2.2.1,(pe3 c),(pe4 c),(pf5 c),()),((),()),((),()),e.1,e.2,()))) (fun c=>(c.1,c.2.2.1,(pe3 c),(pe4 c),(pe5 c),(pf6 c))) (fun{R} c a nx dn rt=>qdd c.1 c.2.1 c.2.2.1 (pe3 c) (pe4 c) (pe5 c) (pf6 c) a.1 a.2.1 a.2.2 nx dn rt),am _ 61 [true] qpj (C:=(Int×Int×(List ag)×Int×qL2×Int×(List ae)×Int×Int)) (S:=(Int×qL2×(List (ByteArray×Bool)))) (fun x=>((x.1.1,(pe4 x.1),(pe5 x.1),(pe6 x.1),x.2.1,x.2.2.1.1,x.2.2.1.2.1,x.2.2.1.2.2.1,(pe3 x.2.2.1)),((pe7 x.1),(pe5 x),(pe6 x)))) qpi (CE:=(Int×Int×qL2×Int×(List ae)×Int×Int)) (E:=(qL2×(List (ByteArray×Bool)))) (fun c e=>((c.1,(),(),((),(),()),c.2.1,()),(c.2.2.1,((pe3 c),(pe4 c),(pe5 c),(pf6 c),()),((),()),((),()),e.1,e.2,()))) (fun c=>(c.1,c.2.1,(pe4 c),(pe5 c),(pe6 c),(pe7 c),(pf8 c))) (fun{R} c a nx dn rt=>qde c.1 c.2.1 c.2.2.1 (pe3 c) (pe4 c) (pe5 c) (pe6 c) (pe7 c) (pf8 c) a.1 a.2.1 a.2.2 nx dn rt),am _ 61 [true] qpl (C:=(Int×qL2×Int×(List ae)×Int×Int)) (S:=(Int×qL2×(List (ByteArray×Bool)))) (fun x=>((x.1.1,x.2.1,x.2.2.1.1,x.2.2.1.2.1,x.2.2.1.2.2.1,(pe3 x.2.2.1)),((pe4 x.1),(pe5 x),(pe6 x)))) qpk (CE:=(Int×qL2)) (E:=qL2) (fun c e=>((c.1,(),()),(c.2,((),()),e,()))) (fun c=>(c.1,c.2.1)) (fun{R} c a nx dn rt=>qdf c.1 c.2.1 c.2.2.1 (pe3 c) (pe4 c) (pf5 c) a.1 a.2.1 a.2.2 nx dn rt)],bp 61 tt [true] [.tmp 6, .tmp 7] qfv (fun x=>(x.1.2.1,x.2.1,x.2.2.1))⟩
theorem uh:CtxM Try.prog ui:=gf fits mixed (mC qlr (mC pp m0))
theorem qsm:au Try.prog ui 1 (lc 4 Try.f67 37471):=lp rfl uh .z s0 (fun c a=>((c.1,(),(),((),(),()),c.2.1,c.2.2.1,(pe3 c),a.1,()),((pe4 c),((pe5 c),(pe6 c),(pe7 c),(pf8 c),()),((),()),((),()),a.2.1,a.2.2,()))) (fun y=>((y.1.1,(pe4 y.1),y.2.1,y.2.2.1.1,y.2.2.1.2.1,y.2.2.1.2.2.1,(pe3 y.2.2.1)),((pe5 y),(pe6 y))))
theorem qsn:au Try.prog ui 2 (lc 2 Try.f67 607):=lp rfl uh (.two .z (.two (.one (.two (.d [0,0,0,6,14,31,63,0] [] []) (.s 1))) .z)) (sC qsm s0) (fun c a=>((c.1,(),(),((),(),()),a.1,()),(c.2.1,(c.2.2.1,(pe3 c),(pe4 c),(pf5 c),()),((),()),((),()),a.2.1,a.2.2,()))) (fun y=>((y.1.1,y.2.1),(pe3 y)))
theorem qsl:au Try.prog ui 0 (lc 0 Try.f67 303):=lp rfl uh .z s0 (fun c a=>((c.1,(),(),((),(),()),(),c.2.1,a.1,()),(c.2.2.1,((pe3 c),(pe4 c),(pe5 c),(pf6 c),()),((),()),((),()),a.2.1,a.2.2,()))) (fun y=>((y.1.1,y.2.1,y.2.2.1.1,y.2.2.1.2.1,y.2.2.1.2.2.1,(pe3 y.2.2.1)),((pe5 y),(pe6 y))))
abbrev qho:Mdl:=(aq (.cons (.d false a8.ty) (.cons (.own 0) (.cons (.d false qT0) .nil))) [qi6] [true] 2 qfv (B:=(Bool×qL2×qL2)) (fun b=>(((),b.1,()),(b.2.1,b.2.2,()))) (fun a=>qcm a.1.1 a.1.2.2.1 a.2.1))
theorem qpo:MdlOK Try.prog 67 qho:=gc Try.func67 rfl uh (.two .z (.two .z (.two .z (.two .z (.two (.two .z (.s 0)) (.two (.two .z (.s 2)) (.two (.d [0,0,2,0,14,1,63] [] []) .z))))))) (sC qsl (sC qsn s0))
def qhi:Shp:=⟨[jpl],[]⟩
abbrev qxl:Ctx (ByteArray):=⟨11,tt,false,false,[],fl [(93,z7)],gb [],bp 11 tt [] [.tmp 4] qhi (fun x=>x.1.1)⟩
theorem qxk:CtxM Try.prog qxl:=gf fits mixed (mC qa1 m0)
abbrev n7:Mdl:=(aq (.cons (.d false qT1) (.cons (.d false qT1) .nil)) [] [] 1 qhi (B:=ByteArray) (fun b=>((b,()),(()))) (fun a=>k9 a.1.1 a.1.2.1))
theorem nu:MdlOK Try.prog 81 n7:=gc Try.func81 rfl qxk .z s0
def qkd:Shp:=⟨[jie,q8h],[qmk]⟩
abbrev q0z:Ctx ((Int×qL1)):=⟨10,tt,false,false,[],fl [(104,qlx)],gb [],bp 10 tt [] [.tmp 2, .tmp 3] qkd (fun x=>(x.1.2.1,x.2.1))⟩
theorem q0y:CtxM Try.prog q0z:=gf fits mixed (mC qni m0)
abbrev qe2:Mdl:=(aq (.cons (.d false a8.ty) .nil) [] [] 2 qkd (B:=(Int×qL1)) (fun b=>(((),b.1,()),(b.2,()))) (fun a=>o3 a.1.1))
theorem qhy:MdlOK Try.prog 105 qe2:=gc Try.func105 rfl q0y .z s0
def ve:Shp:=⟨[qiu],[]⟩
abbrev wa:Ctx (Bool):=⟨26,tt,false,false,[],fl [],gb [am _ 26 [] qed (C:=(qL1×qL1×Int)) (S:=Int) (fun x=>((x.1.1,x.1.2.1,x.1.2.2.1),(pe3 x.1))) qec (CE:=Unit) (E:=Unit) (fun c e=>((()),(()))) (fun c=>()) (fun{R} c a nx dn rt=>ey c.1 c.2.1 c.2.2 a nx dn rt)],bp 26 tt [] [.tmp 4] ve (fun x=>x.1.1)⟩
theorem v8:CtxM Try.prog wa:=gf fits mixed m0
theorem qfd:au Try.prog wa 0 (lc 0 Try.f19 75):=lp rfl v8 (.two .z (.two .z (.two (.one (.two .z (.two (.d [0,0,3,7,0,0,48,112,255] [] []) .z))) .z))) s0 (fun c a=>((c.1,c.2.1,c.2.2,a,()),(()))) (fun y=>((),()))
abbrev eb:Mdl:=(aq (.cons (.d false qT1) (.cons (.d false qT1) .nil)) [] [] 1 ve (B:=Bool) (fun b=>((b,()),(()))) (fun a=>bc a.1.1 a.1.2.1))
theorem ez:MdlOK Try.prog 19 eb:=gc Try.func19 rfl v8 (.two .z (.two .z (.two (.two .z (.s 0)) .z))) (sC qfd s0)
def qf2:Shp:=⟨[jsb,q8h],[qmk]⟩
abbrev qhx:Ctx ((Int×qL1)):=⟨30,tt,false,false,[],fl [(49,uq),(88,qa9)],gb [am _ 30 [] qpx (C:=(qL1×(List ae)×Int)) (S:=(Int×qL1)) (fun x=>((x.1.1,x.1.2.2.1,(pe3 x.1)),((pe4 x.1),x.2.1))) qpw (CE:=Unit) (E:=qL1) (fun c e=>(((),()),(e,()))) (fun c=>()) (fun{R} c a nx dn rt=>mg c.1 c.2.1 c.2.2 a.1 a.2 nx dn rt)],bp 30 tt [] [.tmp 4, .tmp 5] qf2 (fun x=>(x.1.2.1,x.2.1))⟩
theorem qhw:CtxM Try.prog qhx:=gf fits mixed (mC wn (mC qdr m0))
theorem qsp:au Try.prog qhx 0 (lc 0 Try.f103 151):=lp rfl qhw .z s0 (fun c a=>((c.1,(),c.2.1,c.2.2,a.1,()),(a.2,()))) (fun y=>((),y.2.1))
abbrev uk:Mdl:=(aq (.cons (.d false a8.ty) (.cons (.d false qT1) .nil)) [] [] 2 qf2 (B:=(Int×qL1)) (fun b=>(((),b.1,()),(b.2,()))) (fun a=>l4 a.1.1 a.1.2.1))
theorem wm:MdlOK Try.prog 103 uk:=gc Try.func103 rfl qhw (.two .z (.two .z (.two .z (.two (.two .z (.s 0)) .z)))) (sC qsp s0)
def x5:Shp:=⟨[qiu],[qt9,qoo]⟩
abbrev qje:Ctx ((Bool×(List (ByteArray×Bool)))):=⟨11,tt,false,false,[true,true],fl [(81,n7)],gb [],bp 11 tt [true,true] [.tmp 5] x5 (fun x=>(x.1.1,x.2.2.1))⟩
theorem qjd:CtxM Try.prog qje:=gf fits mixed (mC nu m0)
abbrev qo:Mdl:=(aq (.cons (.d false qT1) (.cons (.d false qT1) (.cons (.ptr 0) .nil))) [qt9,qoo] [true,true] 1 x5 (B:=(Bool×(List (ByteArray×Bool)))) (fun b=>((b.1,()),(((),()),b.2,()))) (fun a=>se a.1.1 a.1.2.1 a.2.2.1))
theorem v6:MdlOK Try.prog 96 qo:=gc Try.func96 rfl qjd (.two .z (.two (.d [0,0,0,6,15,31] [] []) .z)) s0
def x7:Shp:=⟨[qiu],[qr3,qmi,qoo]⟩
abbrev qjj:Ctx ((Bool×(List (ByteArray×Bool)))):=⟨24,tt,false,false,[true,true,true],fl [(96,qo)],gb [],bp 24 tt [true,true,true] [.tmp 6] x7 (fun x=>(x.1.1,(pe3 x)))⟩
theorem qji:CtxM Try.prog qjj:=gf fits mixed (mC v6 m0)
abbrev zl:Mdl:=(aq (.cons (.d false ag.ty) (.cons (.rp false a8.ty) (.cons (.rp false .str) (.cons (.ptr 0) (.cons (.rp false ag.ty) .nil))))) [qr3,qmi,qoo] [true,true,true] 1 x7 (B:=(Bool×(List (ByteArray×Bool)))) (fun b=>((b.1,()),((((),()),()),((),()),b.2,()))) (fun a=>qaw a.1.1 a.1.2.1 a.1.2.2.1 (pe4 a.1) (pe3 a)))
theorem qgt:MdlOK Try.prog 107 zl:=gc Try.func107 rfl qji (.two .z (.two (.d [0,1,0,4,15,31,63,0,255,511,1023,1023,3071,1023,9215,32767,65535,131071] [15,16,17] []) .z)) s0
def dh:Shp:=⟨[qw4],[qr3,qmi,qoo]⟩
abbrev du:Ctx ((Int×(List (ByteArray×Bool)))):=⟨19,tt,false,false,[true,true,true],fl [(107,zl)],gb [am _ 19 [true,true,true] jm (C:=((List ag)×a8×ByteArray×ag×Int)) (S:=(Int×(List (ByteArray×Bool)))) (fun x=>((x.1.1,x.1.2.1.1,x.1.2.1.2.1,(pe3 x.1.2.1),x.1.2.2.1),((pe3 x.1),(pe3 x)))) jl (CE:=Unit) (E:=(List (ByteArray×Bool))) (fun c e=>((()),((((),()),()),((),()),e,()))) (fun c=>()) (fun{R} c a nx dn rt=>db c.1 c.2.1 c.2.2.1 (pe3 c) (pf4 c) a.1 a.2 nx dn rt)],bp 19 tt [true,true,true] [.tmp 4] dh (fun x=>(x.1.1,(pe3 x)))⟩
theorem dq:CtxM Try.prog du:=gf fits mixed (mC qgt m0)
theorem j5:au Try.prog du 0 (lc 0 Try.f118 37):=lp rfl dq .z s0 (fun c a=>((c.1,(c.2.1,c.2.2.1,(),(pe3 c),()),(pf4 c),a.1,()),((((),()),()),((),()),a.2,()))) (fun y=>((),(pe3 y)))
abbrev dr:Mdl:=(aq (.cons (.d false (.slice ag.ty)) (.cons (.fn 107 (.cons (.rp false a8.ty) (.cons (.rp false .str) (.cons (.ptr 0) (.cons (.rp false ag.ty) .nil))))) .nil)) [qr3,qmi,qoo] [true,true,true] 1 dh (B:=(Int×(List (ByteArray×Bool)))) (fun b=>((b.1,()),((((),()),()),((),()),b.2,()))) (fun a=>dx a.1.1 a.1.2.1.1 a.1.2.1.2.1 (pe3 a.1.2.1) (pe3 a)))
theorem jo:MdlOK Try.prog 118 dr:=gc Try.func118 rfl dq (.two .z (.two (.two .z (.s 0)) .z)) (sC j5 s0)
def cu:Shp:=⟨[qiu],[qr3,qmi,qoo]⟩
abbrev i5:Ctx ((Bool×(List (ByteArray×Bool)))):=⟨9,tt,false,false,[true,true,true],fl [(118,dr)],gb [],bp 9 tt [true,true,true] [.tmp 4] cu (fun x=>(x.1.1,(pe3 x)))⟩
theorem i4:CtxM Try.prog i5:=gf fits mixed (mC jo m0)
abbrev c7:Mdl:=(aq (.cons (.d false (.slice ag.ty)) (.cons (.fn 107 (.cons (.rp false a8.ty) (.cons (.rp false .str) (.cons (.ptr 0) (.cons (.rp false ag.ty) .nil))))) .nil)) [qr3,qmi,qoo] [true,true,true] 1 cu (B:=(Bool×(List (ByteArray×Bool)))) (fun b=>((b.1,()),((((),()),()),((),()),b.2,()))) (fun a=>bw a.1.1 a.1.2.1.1 a.1.2.1.2.1 (pe3 a.1.2.1) (pe3 a)))
theorem h8:MdlOK Try.prog 106 c7:=gc Try.func106 rfl i4 .z s0
def qaz:Shp:=⟨[qiu],[qt9,qoo]⟩
abbrev uf:Ctx ((Bool×(List (ByteArray×Bool)))):=⟨85,tt,false,false,[true,true],fl [(105,qe2),(19,eb),(94,oy),(103,uk),(96,qo),(106,c7)],gb [am _ 85 [true,true] qjq (C:=(qL1×(List ag)×(List ag)×Int×Int×(List ae)×Int×Int×Int×(List ae)×Int×Int)) (S:=(Int×(List (ByteArray×Bool)))) (fun x=>((x.1.1,(pe4 x.1),(pe5 x.1),(pe6 x.1),(pe3 x).1,(pe3 x).2.1,(pe3 x).2.2.1,(pe3 (pe3 x)),(pe4 x).1,(pe4 x).2.1,(pe4 x).2.2.1,(pe3 (pe4 x))),((pe7 x.1),x.2.2.1))) qjp (CE:=Unit) (E:=(List (ByteArray×Bool))) (fun c e=>((()),(((),()),e,()))) (fun c=>()) (fun{R} c a nx dn rt=>zm c.1 c.2.1 c.2.2.1 (pe3 c) (pe4 c) (pe5 c) (pe6 c) (pe7 c) (pe8 c) (pe9 c) (pe10 c) (pf11 c) a.1 a.2 nx dn rt),qan _ 85 [true,true] qjs (A:=(qL1×qL1×(List (ByteArray×Bool))×Int×(List ae)×Int×Int×Int×(List ae)×Int×Int)) (fun x=>(x.1.1,x.1.2.1,x.2.2.1,(pe3 x).1,(pe3 x).2.1,(pe3 x).2.2.1,(pe3 (pe3 x)),(pe4 x).1,(pe4 x).2.1,(pe4 x).2.2.1,(pe3 (pe4 x)))) qjr (CE:=Unit) (E:=Unit) (fun c e=>((()),(()))) (fun c=>()) (fun{R} c dn rt=>zn c.1 c.2.1 c.2.2.1 (pe3 c) (pe4 c) (pe5 c) (pe6 c) (pe7 c) (pe8 c) (pe9 c) (pf10 c) dn rt)],bp 85 tt [true,true] [.tmp 10] qaz (fun x=>(x.1.1,x.2.2.1))⟩
theorem ue:CtxM Try.prog uf:=gf fits mixed (mC qhy (mC ez (mC pp (mC wm (mC v6 (mC h8 m0))))))
theorem qlo:au Try.prog uf 0 (lc 0 Try.f84 4863):=lp rfl ue .z s0 (fun c a=>((c.1,(),(),(),c.2.1,c.2.2.1,(pe3 c),a.1,()),(((),()),a.2,((pe4 c),(pe5 c),(pe6 c),(pe7 c),()),((pe8 c),(pe9 c),(pe10 c),(pf11 c),()),(((),()),()),()))) (fun y=>((),y.2.2.1))
theorem qlp:au Try.prog uf 1 (jc Try.f84 31):=jn rfl ue (.two .z (.two .z (.two .z (.two .z (.two (.two .z (.s 0)) .z))))) (sC qlo s0) (fun c=>((c.1,c.2.1,(),(),(),()),(((),()),c.2.2.1,((pe3 c),(pe4 c),(pe5 c),(pe6 c),()),((pe7 c),(pe8 c),(pe9 c),(pf10 c),()),(((),()),()),()))) (fun y=>((),()))
abbrev qb0:Mdl:=(aq (.cons (.d false a8.ty) (.cons (.d false a8.ty) (.cons (.d false qT1) (.cons (.d false qT1) (.cons (.fn 96 (.cons (.ptr 0) .nil)) .nil))))) [qt9,qoo] [true,true] 1 qaz (B:=(Bool×(List (ByteArray×Bool)))) (fun b=>((b.1,()),(((),()),b.2,()))) (fun a=>qdb a.1.1 a.1.2.1 a.1.2.2.1 (pe3 a.1) a.2.2.1))
theorem qjt:MdlOK Try.prog 84 qb0:=gc Try.func84 rfl ue (.two .z (.two .z (.two .z (.two .z (.s 1))))) (sC qlp s0)
def te:Shp:=⟨[qiu],[qr3,qmi,qoo]⟩
abbrev qe0:Ctx ((Bool×(List (ByteArray×Bool)))):=⟨21,tt,false,false,[true,true,true],fl [(84,qb0),(81,n7)],gb [],bp 21 tt [true,true,true] [.tmp 6] te (fun x=>(x.1.1,(pe3 x)))⟩
theorem qez:CtxM Try.prog qe0:=gf fits mixed (mC qjt (mC nu m0))
abbrev m8:Mdl:=(aq (.cons (.d false ab.ty) (.cons (.rp false a8.ty) (.cons (.rp false a8.ty) (.cons (.ptr 0) (.cons (.ptr 1) .nil))))) [qr3,qmi,qoo] [true,true,true] 1 te (B:=(Bool×(List (ByteArray×Bool)))) (fun b=>((b.1,()),((((),()),()),((),()),b.2,()))) (fun a=>oa a.1.1 a.1.2.1 a.1.2.2.1 (pe3 a)))
theorem q0:MdlOK Try.prog 98 m8:=gc Try.func98 rfl qez (.two .z (.two .z (.two (.d [0,0,2,0,8,30,63] [6] []) .z))) s0
def jd:Shp:=⟨[qw4],[qr3,qmi,qoo]⟩
abbrev j2:Ctx ((Int×(List (ByteArray×Bool)))):=⟨19,tt,false,false,[true,true,true],fl [(98,m8)],gb [am _ 19 [true,true,true] qg (C:=((List ab)×a8×a8×Int)) (S:=(Int×(List (ByteArray×Bool)))) (fun x=>((x.1.1,x.1.2.1.1,x.1.2.1.2.1,x.1.2.2.1),((pe3 x.1),(pe3 x)))) qf (CE:=Unit) (E:=(List (ByteArray×Bool))) (fun c e=>((()),((((),()),()),((),()),e,()))) (fun c=>()) (fun{R} c a nx dn rt=>ij c.1 c.2.1 c.2.2.1 c.2.2.2 a.1 a.2 nx dn rt)],bp 19 tt [true,true,true] [.tmp 4] jd (fun x=>(x.1.1,(pe3 x)))⟩
theorem jz:CtxM Try.prog j2:=gf fits mixed (mC q0 m0)
theorem qs:au Try.prog j2 0 (lc 0 Try.f73 37):=lp rfl jz .z s0 (fun c a=>((c.1,(c.2.1,c.2.2.1,(),(),()),c.2.2.2,a.1,()),((((),()),()),((),()),a.2,()))) (fun y=>((),(pe3 y)))
abbrev j1:Mdl:=(aq (.cons (.d false (.slice ab.ty)) (.cons (.fn 98 (.cons (.rp false a8.ty) (.cons (.rp false a8.ty) (.cons (.ptr 0) (.cons (.ptr 1) .nil))))) .nil)) [qr3,qmi,qoo] [true,true,true] 1 jd (B:=(Int×(List (ByteArray×Bool)))) (fun b=>((b.1,()),((((),()),()),((),()),b.2,()))) (fun a=>kc a.1.1 a.1.2.1.1 a.1.2.1.2.1 (pe3 a)))
theorem qh:MdlOK Try.prog 73 j1:=gc Try.func73 rfl jz (.two .z (.two (.two .z (.s 0)) .z)) (sC qs s0)
def ii:Shp:=⟨[jie],[qoy,jaa,jaz,qoo]⟩
abbrev i9:Ctx (((List ab)×(List (ByteArray×Bool)))):=⟨42,tt,false,false,[false,true,true,true],fl [(73,j1),(98,m8)],gb [am _ 42 [false,true,true,true] pd (C:=(a8×a8)) (S:=(Int×Int×(List ab)×(List (ByteArray×Bool)))) (fun x=>((x.1.2.1.1,x.1.2.1.2.1),(x.1.2.2.1,(pe3 x.1),x.2.1,(pe4 x)))) pc (CE:=Unit) (E:=(Int×(List ab)×(List (ByteArray×Bool)))) (fun c e=>(((),e.1,()),(e.2.1,(((),()),()),((),()),e.2.2,()))) (fun c=>()) (fun{R} c a nx dn rt=>gp c.1 c.2 a.1 a.2.1 a.2.2.1 a.2.2.2 nx dn rt)],bp 42 tt [false,true,true,true] [.tmp 4] ii (fun x=>(x.2.1,(pe4 x)))⟩
theorem i6:CtxM Try.prog i9:=gf fits mixed (mC qh (mC q0 m0))
theorem qb:au Try.prog i9 0 (lc 0 Try.f97 151):=lp rfl i6 .z s0 (fun c a=>(((),(c.1,c.2,(),(),()),a.1,a.2.1,()),(a.2.2.1,(((),()),()),((),()),a.2.2.2,()))) (fun y=>((),(y.1.2.1,y.2.1,(pe4 y))))
abbrev i7:Mdl:=(aq (.cons (.own 0) (.cons (.fn 98 (.cons (.rp false a8.ty) (.cons (.rp false a8.ty) (.cons (.ptr 1) (.cons (.ptr 2) .nil))))) .nil)) [qoy,jaa,jaz,qoo] [false,true,true,true] 1 ii (B:=((List ab)×(List (ByteArray×Bool)))) (fun b=>(((),()),(b.1,(((),()),()),((),()),b.2,()))) (fun a=>jv a.1.2.1.1 a.1.2.1.2.1 a.2.1 (pe4 a)))
theorem pe:MdlOK Try.prog 97 i7:=gc Try.func97 rfl i6 (.two .z (.two .z (.two .z (.two (.two .z (.s 0)) .z)))) (sC qb s0)
def qau:Shp:=⟨[(0, .own 2)],[qi6,qi6,qoy]⟩
abbrev od:Ctx ((qL2×qL2×(List ab))):=⟨55,tt,false,false,[true,true],fl [(81,n7),(97,i7)],gb [am _ 55 [true,true] qi8 (C:=(qL1×Int×Int×Int×qL2×qL2×Int×(List ae)×Int×Int×Int×(List ae)×Int×Int)) (S:=(Int×(List ab)×(List (ByteArray×Bool)))) (fun x=>(((pe5 x.1),(pe7 x.1),(pe8 x.1),(pe10 x.1),x.2.1,x.2.2.1,(pe3 x).1,(pe3 x).2.1,(pe3 x).2.2.1,(pe3 (pe3 x)),(pe4 x).1,(pe4 x).2.1,(pe4 x).2.2.1,(pe3 (pe4 x))),((pe11 x.1),(pe5 x),(pe7 x)))) qi7 (CE:=(Int×Int×qL2×qL2×Int×(List ae)×Int×Int×Int×(List ae)×Int×Int)) (E:=((List ab)×(List (ByteArray×Bool)))) (fun c e=>(((),(),(),(),(),(),c.1,c.2.1,()),(c.2.2.1,(pe3 c),((pe4 c),(pe5 c),(pe6 c),(pe7 c),()),((pe8 c),(pe9 c),(pe10 c),(pf11 c),()),e.1,((),()),e.2,()))) (fun c=>(c.2.1,c.2.2.1,(pe4 c),(pe5 c),(pe6 c),(pe7 c),(pe8 c),(pe9 c),(pe10 c),(pe11 c),(pe12 c),(pf13 c))) (fun{R} c a nx dn rt=>zh c.1 c.2.1 c.2.2.1 (pe3 c) (pe4 c) (pe5 c) (pe6 c) (pe7 c) (pe8 c) (pe9 c) (pe10 c) (pe11 c) (pe12 c) (pf13 c) a.1 a.2.1 a.2.2 nx dn rt),am _ 55 [true,true] qja (C:=(Int×qL2×qL2×Int×(List ae)×Int×Int×Int×(List ae)×Int×Int)) (S:=(Int×(List ab)×(List (ByteArray×Bool)))) (fun x=>(((pe6 x.1),x.2.1,x.2.2.1,(pe3 x).1,(pe3 x).2.1,(pe3 x).2.2.1,(pe3 (pe3 x)),(pe4 x).1,(pe4 x).2.1,(pe4 x).2.2.1,(pe3 (pe4 x))),((pe7 x.1),(pe5 x),(pe7 x)))) qi9 (CE:=(qL2×qL2×Int×(List ae)×Int×Int×Int×(List ae)×Int×Int)) (E:=((List ab)×(List (ByteArray×Bool)))) (fun c e=>(((),(),(),(),()),(c.1,c.2.1,(c.2.2.1,(pe3 c),(pe4 c),(pe5 c),()),((pe6 c),(pe7 c),(pe8 c),(pf9 c),()),e.1,((),()),e.2,()))) (fun c=>(c.2.1,c.2.2.1,(pe3 c),(pe4 c),(pe5 c),(pe6 c),(pe7 c),(pe8 c),(pe9 c),(pf10 c))) (fun{R} c a nx dn rt=>zi c.1 c.2.1 c.2.2.1 (pe3 c) (pe4 c) (pe5 c) (pe6 c) (pe7 c) (pe8 c) (pe9 c) (pf10 c) a.1 a.2.1 a.2.2 nx dn rt),am _ 55 [true,true] qjc (C:=(qL2×qL2×Int×(List ae)×Int×Int×Int×(List ae)×Int×Int)) (S:=(Bool×(List ab)×(List (ByteArray×Bool)))) (fun x=>((x.2.1,x.2.2.1,(pe3 x).1,(pe3 x).2.1,(pe3 x).2.2.1,(pe3 (pe3 x)),(pe4 x).1,(pe4 x).2.1,(pe4 x).2.2.1,(pe3 (pe4 x))),((pe5 x.1),(pe5 x),(pe8 x)))) qjb (CE:=(qL2×qL2)) (E:=(List ab)) (fun c e=>(((),()),(c.1,c.2,e,()))) (fun c=>(c.1,c.2.1)) (fun{R} c a nx dn rt=>zj c.1 c.2.1 c.2.2.1 (pe3 c) (pe4 c) (pe5 c) (pe6 c) (pe7 c) (pe8 c) (pf9 c) a.1 a.2.1 a.2.2 nx dn rt)],bp 55 tt [true,true] [.tmp 8] qau (fun x=>(x.2.1,x.2.2.1,(pe3 x)))⟩
theorem oc:CtxM Try.prog od:=gf fits mixed (mC nu (mC pe m0))
theorem qli:au Try.prog od 0 (lc 2 Try.f68 39319):=lp rfl oc (.two .z (.two .z (.two (.one (.two .z (.two .z (.d [0,0,0,6,15] [4] [])))) .z))) s0 (fun c a=>(((),(),(),(),(),c.1,(),c.2.1,c.2.2.1,(),(pe3 c),a.1,()),((pe4 c),(pe5 c),((pe6 c),(pe7 c),(pe8 c),(pe9 c),()),((pe10 c),(pe11 c),(pe12 c),(pf13 c),()),a.2.1,((),()),a.2.2,()))) (fun y=>(((pe6 y.1),(pe7 y.1),y.2.1,y.2.2.1,(pe3 y).1,(pe3 y).2.1,(pe3 y).2.2.1,(pe3 (pe3 y)),(pe4 y).1,(pe4 y).2.1,(pe4 y).2.2.1,(pe3 (pe4 y))),((pe5 y),(pe7 y))))
theorem qlk:au Try.prog od 2 (lc 4 Try.f68 607):=lp rfl oc .z s0 (fun c a=>(((),(),(),(),(),a.1,()),(c.1,c.2.1,(c.2.2.1,(pe3 c),(pe4 c),(pe5 c),()),((pe6 c),(pe7 c),(pe8 c),(pf9 c),()),a.2.1,((),()),(((),()),()),a.2.2,()))) (fun y=>((y.2.1,y.2.2.1),(pe3 y)))
theorem qlj:au Try.prog od 1 (lc 0 Try.f68 151):=lp rfl oc (.two .z (.two .z (.two (.one (.two .z (.two .z (.s 0)))) .z))) (sC qli s0) (fun c a=>(((),(),(),(),(),(),c.1,a.1,()),(c.2.1,c.2.2.1,((pe3 c),(pe4 c),(pe5 c),(pe6 c),()),((pe7 c),(pe8 c),(pe9 c),(pf10 c),()),a.2.1,((),()),a.2.2,()))) (fun y=>((y.2.1,y.2.2.1,(pe3 y).1,(pe3 y).2.1,(pe3 y).2.2.1,(pe3 (pe3 y)),(pe4 y).1,(pe4 y).2.1,(pe4 y).2.2.1,(pe3 (pe4 y))),((pe5 y),(pe7 y))))
abbrev qbx:Mdl:=(aq (.cons (.d false a8.ty) (.cons (.d false a8.ty) (.cons (.own 0) (.cons (.own 1) .nil)))) [qi6,qi6] [true,true] 1 qau (B:=(qL2×qL2×(List ab))) (fun b=>(((),()),(b.1,b.2.1,b.2.2,()))) (fun a=>qda a.1.1 a.1.2.1 a.2.1 a.2.2.1))
theorem qjf:MdlOK Try.prog 68 qbx:=gc Try.func68 rfl oc (.two .z (.two .z (.two .z (.two (.two .z (.s 1)) (.two .z (.two (.two .z (.s 2)) .z)))))) (sC qlj (sC qlk s0))
def qc9:Shp:=⟨[qiu],[]⟩
abbrev qsg:Ctx (Bool):=⟨16,tt,false,false,[],fl [(19,eb)],gb [],bp 16 tt [] [.tmp 4] qc9 (fun x=>x.1.1)⟩
theorem qsf:CtxM Try.prog qsg:=gf fits mixed (mC ez m0)
abbrev qft:Mdl:=(aq (.cons (.d false ab.ty) (.cons (.rp false qT1) (.cons (.rp false af.ty) .nil))) [] [] 1 qc9 (B:=Bool) (fun b=>((b,()),(()))) (fun a=>qhe a.1.1 a.1.2.1 a.1.2.2.1))
theorem qmx:MdlOK Try.prog 69 qft:=gc Try.func69 rfl qsf .z s0
def kq:Shp:=⟨[qw4],[]⟩
abbrev lx:Ctx (Int):=⟨19,tt,false,false,[],fl [(69,qft)],gb [am _ 19 [] s5 (C:=((List ab)×qL1×af×Int)) (S:=Int) (fun x=>((x.1.1,x.1.2.1.1,x.1.2.1.2.1,x.1.2.2.1),(pe3 x.1))) sy (CE:=Unit) (E:=Unit) (fun c e=>((()),(()))) (fun c=>()) (fun{R} c a nx dn rt=>kb c.1 c.2.1 c.2.2.1 c.2.2.2 a nx dn rt)],bp 19 tt [] [.tmp 4] kq (fun x=>x.1.1)⟩
theorem lu:CtxM Try.prog lx:=gf fits mixed (mC qmx m0)
theorem tu:au Try.prog lx 0 (lc 0 Try.f73 37):=lp rfl lu .z s0 (fun c a=>((c.1,(c.2.1,c.2.2.1,()),c.2.2.2,a,()),(()))) (fun y=>((),()))
abbrev lw:Mdl:=(aq (.cons (.d false (.slice ab.ty)) (.cons (.fn 69 (.cons (.rp false qT1) (.cons (.rp false af.ty) .nil))) .nil)) [] [] 1 kq (B:=Int) (fun b=>((b,()),(()))) (fun a=>ma a.1.1 a.1.2.1.1 a.1.2.1.2.1))
theorem s6:MdlOK Try.prog 73 lw:=gc Try.func73 rfl lu (.two .z (.two (.two .z (.s 0)) .z)) (sC tu s0)
def iw:Shp:=⟨[qiu],[]⟩
abbrev rm:Ctx (Bool):=⟨9,tt,false,false,[],fl [(73,lw)],gb [],bp 9 tt [] [.tmp 4] iw (fun x=>x.1.1)⟩
theorem rl:CtxM Try.prog rm:=gf fits mixed (mC s6 m0)
abbrev jt:Mdl:=(aq (.cons (.d false (.slice ab.ty)) (.cons (.fn 69 (.cons (.rp false qT1) (.cons (.rp false af.ty) .nil))) .nil)) [] [] 1 iw (B:=Bool) (fun b=>((b,()),(()))) (fun a=>j8 a.1.1 a.1.2.1.1 a.1.2.1.2.1))
theorem p8:MdlOK Try.prog 36 jt:=gc Try.func36 rfl rl .z s0
def qhd:Shp:=⟨[(0, .d true f9.ty),q8h],[]⟩
abbrev xg:Ctx ((f9×Int)):=⟨138,tt,false,true,[],fl [(58,qhg),(59,qa2),(65,cp),(67,qho),(68,qbx),(36,jt),(50,fx)],gb [am _ 138 [] qr8 (C:=(Int×(List af)×(List af)×Int×Int×(List ae)×Int×Int×Int×(List ae)×Int×Int×qL1×qL1×(List ab)×qL1)) (S:=(Int×qL2)) (fun x=>((x.1.1,(pe5 x.1),(pe7 x.1),(pe8 x.1),x.2.1.1,x.2.1.2.1,x.2.1.2.2.1,(pe3 x.2.1),x.2.2.1.1,x.2.2.1.2.1,x.2.2.1.2.2.1,(pe3 x.2.2.1),(pe3 x).1,(pe3 x).2.1,(pe3 x).2.2.1,(pe4 x).1),((pe9 x.1),(pe5 x)))) qr7 (CE:=(Int×(List af)×Int×(List ae)×Int×Int×Int×(List ae)×Int×Int×qL1×qL1×(List ab)×qL1)) (E:=qL2) (fun c e=>((c.1,(),(),(),(),c.2.1,(),()),((c.2.2.1,(pe3 c),(pe4 c),(pe5 c),()),((pe6 c),(pe7 c),(pe8 c),(pe9 c),()),((pe10 c),(pe11 c),(pe12 c),()),((pf13 c),()),e,()))) (fun c=>(c.1,c.2.1,(pe4 c),(pe5 c),(pe6 c),(pe7 c),(pe8 c),(pe9 c),(pe10 c),(pe11 c),(pe12 c),(pe13 c),(pe14 c),(pf15 c))) (fun{R} c a nx dn rt=>qfq c.1 c.2.1 c.2.2.1 (pe3 c) (pe4 c) (pe5 c) (pe6 c) (pe7 c) (pe8 c) (pe9 c) (pe10 c) (pe11 c) (pe12 c) (pe13 c) (pe14 c) (pf15 c) a.1 a.2 nx dn rt),am _ 138 [] qsa (C:=((List ab)×Int×qL1×qL1×(List ab)×qL1×qL1)) (S:=(Int×(List ab))) (fun x=>((x.1.2.2.1,(pe3 x.1),x.2.1.1,x.2.1.2.1,x.2.1.2.2.1,x.2.2.1.1,x.2.2.1.2.1),((pe4 x.1),(pe3 x)))) qr9 (CE:=(qL1×qL1×(List ab)×qL1×qL1)) (E:=(List ab)) (fun c e=>(((),(),()),((c.1,c.2.1,c.2.2.1,()),((pe3 c),(pf4 c),(),()),e,()))) (fun c=>(c.2.2.1,(pe3 c),(pe4 c),(pe5 c),(pf6 c))) (fun{R} c a nx dn rt=>qfr c.1 c.2.1 c.2.2.1 (pe3 c) (pe4 c) (pe5 c) (pf6 c) a.1 a.2 nx dn rt),am _ 138 [] qsc (C:=((List ab)×(List af)×Int×qL1×qL1×(List ab)×qL1)) (S:=Int) (fun x=>((x.1.2.2.1,(pe3 x.1),(pe4 x.1),x.2.1.1,x.2.1.2.1,x.2.1.2.2.1,x.2.2.1.1),(pe5 x.1))) qsb (CE:=(qL1×qL1×(List ab))) (E:=Unit) (fun c e=>(((),()),((c.1,c.2.1,c.2.2,()),()))) (fun c=>((pe3 c),(pe4 c),(pe5 c))) (fun{R} c a nx dn rt=>qfs c.1 c.2.1 c.2.2.1 (pe3 c) (pe4 c) (pe5 c) (pf6 c) a nx dn rt)],bp 138 tt [] [.cell 8 28, .tmp 9] qhd (fun x=>(x.1.1,x.1.2.1))⟩
theorem xf:CtxM Try.prog xg:=gf fits mixed (mC qpb (mC qhn (mC gk (mC qpo (mC qjf (mC p8 (mC ig m0)))))))
theorem quy:au Try.prog xg 1 (lc 4 Try.f31 313733119):=lp rfl xf (.two .z (.two .z (.two (.one (.two .z (.d [0,1,0,4,12,0,32,124,252,508,1023,2047,4095] [10,12] []))) .z))) s0 (fun c a=>(((),(),c.1,c.2.1,a.1,()),((c.2.2.1,(pe3 c),(pe4 c),()),((pe5 c),(pf6 c),(),()),a.2,()))) (fun y=>((y.2.1.1,y.2.1.2.1,y.2.1.2.2.1,y.2.2.1.1,y.2.2.1.2.1),(pe3 y)))
theorem quz:au Try.prog xg 2 (lc 2 Try.f31 77823):=lp rfl xf (.two .z (.two .z (.two (.one (.two .z (.two .z (.two (.two (.d [0,1,3,0,8,31,0,127] [7] []) (.two (.two .z (.s 1)) .z)) .z)))) .z))) (sC quy s0) (fun c a=>(((),(),c.1,c.2.1,c.2.2.1,a,()),(((pe3 c),(pe4 c),(pe5 c),()),((pf6 c),()),()))) (fun y=>((y.2.1.1,y.2.1.2.1,y.2.1.2.2.1),()))
theorem qux:au Try.prog xg 0 (lc 0 Try.f31 2431):=lp rfl xf .z s0 (fun c a=>((c.1,(),(),(),(),c.2.1,(),c.2.2.1,(pe3 c),a.1,()),(((pe4 c),(pe5 c),(pe6 c),(pe7 c),()),((pe8 c),(pe9 c),(pe10 c),(pe11 c),()),((pe12 c),(pe13 c),(pe14 c),()),((pf15 c),()),a.2,()))) (fun y=>((y.1.1,(pe5 y.1),y.2.1.1,y.2.1.2.1,y.2.1.2.2.1,(pe3 y.2.1),y.2.2.1.1,y.2.2.1.2.1,y.2.2.1.2.2.1,(pe3 y.2.2.1),(pe3 y).1,(pe3 y).2.1,(pe3 y).2.2.1,(pe4 y).1),(pe5 y)))
abbrev qj6:Mdl:=(aq (.cons (.d false a8.ty) (.cons (.d false a8.ty) (.cons (.d false qT1) (.cons (.d false qT0) .nil)))) [] [] 2 qhd (B:=(f9×Int)) (fun b=>((b.1,b.2,()),(()))) (fun a=>qey a.1.1 a.1.2.1 a.1.2.2.1 (pe3 a.1)))
theorem qsh:MdlOK Try.prog 31 qj6:=gc Try.func31 rfl xf (.two .z (.two .z (.two .z (.two .z (.two .z (.two .z (.two .z (.two (.two .z (.s 0)) (.two .z (.two .z (.two .z (.two .z (.two (.two .z (.s 2)) .z))))))))))))) (sC qux (sC quz s0))
def qb1:Shp:=⟨[qiu],[]⟩
abbrev qpf:Ctx (Bool):=⟨15,tt,false,false,[],fl [(103,uk)],gb [],bp 15 tt [] [.tmp 4] qb1 (fun x=>x.1.1)⟩
theorem qpe:CtxM Try.prog qpf:=gf fits mixed (mC wm m0)
abbrev qdc:Mdl:=(aq (.cons (.d false a8.ty) (.cons (.d false qT1) .nil)) [] [] 1 qb1 (B:=Bool) (fun b=>((b,()),(()))) (fun a=>nt a.1.1 a.1.2.1))
theorem qlq:MdlOK Try.prog 78 qdc:=gc Try.func78 rfl qpe .z s0
def qb4:Shp:=⟨[qiu],[]⟩
abbrev qps:Ctx (Bool):=⟨17,tt,false,false,[],fl [(78,qdc)],gb [],bp 17 tt [] [.tmp 4] qb4 (fun x=>x.1.1)⟩
theorem qpr:CtxM Try.prog qps:=gf fits mixed (mC qlq m0)
abbrev qdj:Mdl:=(aq (.cons (.d false ab.ty) (.cons (.rp false a8.ty) (.cons (.rp false a8.ty) .nil))) [] [] 1 qb4 (B:=Bool) (fun b=>((b,()),(()))) (fun a=>yv a.1.1 a.1.2.1 a.1.2.2.1))
theorem qls:MdlOK Try.prog 77 qdj:=gc Try.func77 rfl qpr .z s0
def kw:Shp:=⟨[qw4],[]⟩
abbrev l0:Ctx (Int):=⟨19,tt,false,false,[],fl [(77,qdj)],gb [am _ 19 [] s8 (C:=((List ab)×a8×a8×Int)) (S:=Int) (fun x=>((x.1.1,x.1.2.1.1,x.1.2.1.2.1,x.1.2.2.1),(pe3 x.1))) s7 (CE:=Unit) (E:=Unit) (fun c e=>((()),(()))) (fun c=>()) (fun{R} c a nx dn rt=>cm c.1 c.2.1 c.2.2.1 c.2.2.2 a nx dn rt)],bp 19 tt [] [.tmp 4] kw (fun x=>x.1.1)⟩
theorem ly:CtxM Try.prog l0:=gf fits mixed (mC qls m0)
theorem tv:au Try.prog l0 0 (lc 0 Try.f73 37):=lp rfl ly .z s0 (fun c a=>((c.1,(c.2.1,c.2.2.1,()),c.2.2.2,a,()),(()))) (fun y=>((),()))
abbrev lz:Mdl:=(aq (.cons (.d false (.slice ab.ty)) (.cons (.fn 77 (.cons (.rp false a8.ty) (.cons (.rp false a8.ty) .nil))) .nil)) [] [] 1 kw (B:=Int) (fun b=>((b,()),(()))) (fun a=>fq a.1.1 a.1.2.1.1 a.1.2.1.2.1))
theorem s9:MdlOK Try.prog 73 lz:=gc Try.func73 rfl ly (.two .z (.two (.two .z (.s 0)) .z)) (sC tv s0)
def iy:Shp:=⟨[qiu],[]⟩
abbrev ro:Ctx (Bool):=⟨9,tt,false,false,[],fl [(73,lz)],gb [],bp 9 tt [] [.tmp 4] iy (fun x=>x.1.1)⟩
theorem rn:CtxM Try.prog ro:=gf fits mixed (mC s9 m0)
abbrev ju:Mdl:=(aq (.cons (.d false (.slice ab.ty)) (.cons (.fn 77 (.cons (.rp false a8.ty) (.cons (.rp false a8.ty) .nil))) .nil)) [] [] 1 iy (B:=Bool) (fun b=>((b,()),(()))) (fun a=>eo a.1.1 a.1.2.1.1 a.1.2.1.2.1))
theorem p9:MdlOK Try.prog 36 ju:=gc Try.func36 rfl rn .z s0
def qfy:Shp:=⟨[qiu],[]⟩
abbrev qu3:Ctx (Bool):=⟨11,tt,false,false,[],fl [(36,ju)],gb [],bp 11 tt [] [.tmp 6] qfy (fun x=>x.1.1)⟩
theorem qu2:CtxM Try.prog qu3:=gf fits mixed (mC p9 m0)
abbrev qa5:Mdl:=(aq (.cons (.d false a8.ty) (.cons (.d false a8.ty) (.cons (.d false (.slice ab.ty)) .nil))) [] [] 1 qfy (B:=Bool) (fun b=>((b,()),(()))) (fun a=>rc a.1.1 a.1.2.1 a.1.2.2.1))
theorem qdk:MdlOK Try.prog 44 qa5:=gc Try.func44 rfl qu2 .z s0
def nw:Shp:=⟨[qiu],[]⟩
abbrev oq:Ctx (Bool):=⟨26,tt,false,false,[],fl [],gb [am _ 26 [] yi (C:=((List ByteArray)×(List ByteArray)×Int)) (S:=Int) (fun x=>((x.1.1,x.1.2.1,x.1.2.2.1),(pe3 x.1))) yh (CE:=Unit) (E:=Unit) (fun c e=>((()),(()))) (fun c=>()) (fun{R} c a nx dn rt=>mu c.1 c.2.1 c.2.2 a nx dn rt)],bp 26 tt [] [.tmp 4] nw (fun x=>x.1.1)⟩
theorem ol:CtxM Try.prog oq:=gf fits mixed m0
theorem zd:au Try.prog oq 0 (lc 0 Try.f46 75):=lp rfl ol (.two .z (.two .z (.two (.one (.two .z (.two (.d [0,0,3,7,0,0,48,112,255] [] []) .z))) .z))) s0 (fun c a=>((c.1,c.2.1,c.2.2,a,()),(()))) (fun y=>((),()))
abbrev om:Mdl:=(aq (.cons (.d false (.slice .str)) (.cons (.d false (.slice .str)) .nil)) [] [] 1 nw (B:=Bool) (fun b=>((b,()),(()))) (fun a=>pf a.1.1 a.1.2.1))
theorem yj:MdlOK Try.prog 46 om:=gc Try.func46 rfl ol (.two .z (.two .z (.two (.two .z (.s 0)) .z))) (sC zd s0)
def qbv:Shp:=⟨[qiu],[]⟩
abbrev qo9:Ctx (Bool):=⟨15,tt,false,false,[],fl [(19,eb)],gb [],bp 15 tt [] [.tmp 4] qbv (fun x=>x.1.1)⟩
theorem qo8:CtxM Try.prog qo9:=gf fits mixed (mC ez m0)
abbrev qc7:Mdl:=(aq (.cons (.d false ab.ty) (.cons (.rp false qT1) (.cons (.rp false qT1) .nil))) [] [] 1 qbv (B:=Bool) (fun b=>((b,()),(()))) (fun a=>qfp a.1.1 a.1.2.1 a.1.2.2.1))
theorem qlc:MdlOK Try.prog 47 qc7:=gc Try.func47 rfl qo8 .z s0
def ko:Shp:=⟨[qw4],[]⟩
abbrev ls:Ctx (Int):=⟨19,tt,false,false,[],fl [(47,qc7)],gb [am _ 19 [] sw (C:=((List ab)×qL1×qL1×Int)) (S:=Int) (fun x=>((x.1.1,x.1.2.1.1,x.1.2.1.2.1,x.1.2.2.1),(pe3 x.1))) su (CE:=Unit) (E:=Unit) (fun c e=>((()),(()))) (fun c=>()) (fun{R} c a nx dn rt=>j9 c.1 c.2.1 c.2.2.1 c.2.2.2 a nx dn rt)],bp 19 tt [] [.tmp 4] ko (fun x=>x.1.1)⟩
theorem ln:CtxM Try.prog ls:=gf fits mixed (mC qlc m0)
theorem tp:au Try.prog ls 0 (lc 0 Try.f73 37):=lp rfl ln .z s0 (fun c a=>((c.1,(c.2.1,c.2.2.1,()),c.2.2.2,a,()),(()))) (fun y=>((),()))
abbrev lq:Mdl:=(aq (.cons (.d false (.slice ab.ty)) (.cons (.fn 47 (.cons (.rp false qT1) (.cons (.rp false qT1) .nil))) .nil)) [] [] 1 ko (B:=Int) (fun b=>((b,()),(()))) (fun a=>l9 a.1.1 a.1.2.1.1 a.1.2.1.2.1))
theorem sx:MdlOK Try.prog 73 lq:=gc Try.func73 rfl ln (.two .z (.two (.two .z (.s 0)) .z)) (sC tp s0)
def iv:Shp:=⟨[qiu],[]⟩
abbrev rk:Ctx (Bool):=⟨9,tt,false,false,[],fl [(73,lq)],gb [],bp 9 tt [] [.tmp 4] iv (fun x=>x.1.1)⟩
theorem rj:CtxM Try.prog rk:=gf fits mixed (mC sx m0)
abbrev js:Mdl:=(aq (.cons (.d false (.slice ab.ty)) (.cons (.fn 47 (.cons (.rp false qT1) (.cons (.rp false qT1) .nil))) .nil)) [] [] 1 iv (B:=Bool) (fun b=>((b,()),(()))) (fun a=>j7 a.1.1 a.1.2.1.1 a.1.2.1.2.1))
theorem p0:MdlOK Try.prog 36 js:=gc Try.func36 rfl rj .z s0
def v7:Shp:=⟨[qiu],[qt9,qoo]⟩
abbrev qhs:Ctx ((Bool×(List (ByteArray×Bool)))):=⟨11,tt,false,false,[true,true],fl [(81,n7)],gb [],bp 11 tt [true,true] [.tmp 5] v7 (fun x=>(x.1.1,x.2.2.1))⟩
theorem qhr:CtxM Try.prog qhs:=gf fits mixed (mC nu m0)
abbrev ox:Mdl:=(aq (.cons (.d false qT1) (.cons (.d false qT1) (.cons (.ptr 0) .nil))) [qt9,qoo] [true,true] 1 v7 (B:=(Bool×(List (ByteArray×Bool)))) (fun b=>((b.1,()),(((),()),b.2,()))) (fun a=>ir a.1.1 a.1.2.1 a.2.2.1))
theorem uj:MdlOK Try.prog 82 ox:=gc Try.func82 rfl qhr (.two .z (.two (.d [0,0,0,6,15,31] [] []) .z)) s0
def x6:Shp:=⟨[qiu],[qrv,qmi,qoo]⟩
abbrev qjh:Ctx ((Bool×(List (ByteArray×Bool)))):=⟨24,tt,false,false,[true,true,true],fl [(82,ox)],gb [],bp 24 tt [true,true,true] [.tmp 6] x6 (fun x=>(x.1.1,(pe3 x)))⟩
theorem qjg:CtxM Try.prog qjh:=gf fits mixed (mC uj m0)
abbrev zk:Mdl:=(aq (.cons (.d false ag.ty) (.cons (.rp false a8.ty) (.cons (.rp false .str) (.cons (.ptr 0) (.cons (.rp false ag.ty) .nil))))) [qrv,qmi,qoo] [true,true,true] 1 x6 (B:=(Bool×(List (ByteArray×Bool)))) (fun b=>((b.1,()),((((),()),()),((),()),b.2,()))) (fun a=>m9 a.1.1 a.1.2.1 a.1.2.2.1 (pe4 a.1) (pe3 a)))
theorem qgs:MdlOK Try.prog 107 zk:=gc Try.func107 rfl qjg (.two .z (.two (.d [0,1,0,4,15,31,63,0,255,511,1023,1023,3071,1023,9215,32767,65535,131071] [15,16,17] []) .z)) s0
def dg:Shp:=⟨[qw4],[qrv,qmi,qoo]⟩
abbrev dp:Ctx ((Int×(List (ByteArray×Bool)))):=⟨19,tt,false,false,[true,true,true],fl [(107,zk)],gb [am _ 19 [true,true,true] jj (C:=((List ag)×a8×ByteArray×ag×Int)) (S:=(Int×(List (ByteArray×Bool)))) (fun x=>((x.1.1,x.1.2.1.1,x.1.2.1.2.1,(pe3 x.1.2.1),x.1.2.2.1),((pe3 x.1),(pe3 x)))) ji (CE:=Unit) (E:=(List (ByteArray×Bool))) (fun c e=>((()),((((),()),()),((),()),e,()))) (fun c=>()) (fun{R} c a nx dn rt=>bg c.1 c.2.1 c.2.2.1 (pe3 c) (pf4 c) a.1 a.2 nx dn rt)],bp 19 tt [true,true,true] [.tmp 4] dg (fun x=>(x.1.1,(pe3 x)))⟩
theorem dl:CtxM Try.prog dp:=gf fits mixed (mC qgs m0)
theorem j3:au Try.prog dp 0 (lc 0 Try.f118 37):=lp rfl dl .z s0 (fun c a=>((c.1,(c.2.1,c.2.2.1,(),(pe3 c),()),(pf4 c),a.1,()),((((),()),()),((),()),a.2,()))) (fun y=>((),(pe3 y)))
abbrev dm:Mdl:=(aq (.cons (.d false (.slice ag.ty)) (.cons (.fn 107 (.cons (.rp false a8.ty) (.cons (.rp false .str) (.cons (.ptr 0) (.cons (.rp false ag.ty) .nil))))) .nil)) [qrv,qmi,qoo] [true,true,true] 1 dg (B:=(Int×(List (ByteArray×Bool)))) (fun b=>((b.1,()),((((),()),()),((),()),b.2,()))) (fun a=>b7 a.1.1 a.1.2.1.1 a.1.2.1.2.1 (pe3 a.1.2.1) (pe3 a)))
theorem jk:MdlOK Try.prog 118 dm:=gc Try.func118 rfl dl (.two .z (.two (.two .z (.s 0)) .z)) (sC j3 s0)
def ct:Shp:=⟨[qiu],[qrv,qmi,qoo]⟩
abbrev i3:Ctx ((Bool×(List (ByteArray×Bool)))):=⟨9,tt,false,false,[true,true,true],fl [(118,dm)],gb [],bp 9 tt [true,true,true] [.tmp 4] ct (fun x=>(x.1.1,(pe3 x)))⟩
theorem iz:CtxM Try.prog i3:=gf fits mixed (mC jk m0)
abbrev c6:Mdl:=(aq (.cons (.d false (.slice ag.ty)) (.cons (.fn 107 (.cons (.rp false a8.ty) (.cons (.rp false .str) (.cons (.ptr 0) (.cons (.rp false ag.ty) .nil))))) .nil)) [qrv,qmi,qoo] [true,true,true] 1 ct (B:=(Bool×(List (ByteArray×Bool)))) (fun b=>((b.1,()),((((),()),()),((),()),b.2,()))) (fun a=>aw a.1.1 a.1.2.1.1 a.1.2.1.2.1 (pe3 a.1.2.1) (pe3 a)))
theorem g9:MdlOK Try.prog 106 c6:=gc Try.func106 rfl iz .z s0
def qay:Shp:=⟨[qiu],[qt9,qoo]⟩
abbrev ud:Ctx ((Bool×(List (ByteArray×Bool)))):=⟨85,tt,false,false,[true,true],fl [(105,qe2),(19,eb),(94,oy),(103,uk),(82,ox),(106,c6)],gb [am _ 85 [true,true] qjl (C:=(qL1×(List ag)×(List ag)×Int×Int×(List ae)×Int×Int×Int×(List ae)×Int×Int)) (S:=(Int×(List (ByteArray×Bool)))) (fun x=>((x.1.1,(pe4 x.1),(pe5 x.1),(pe6 x.1),(pe3 x).1,(pe3 x).2.1,(pe3 x).2.2.1,(pe3 (pe3 x)),(pe4 x).1,(pe4 x).2.1,(pe4 x).2.2.1,(pe3 (pe4 x))),((pe7 x.1),x.2.2.1))) qjk (CE:=Unit) (E:=(List (ByteArray×Bool))) (fun c e=>((()),(((),()),e,()))) (fun c=>()) (fun{R} c a nx dn rt=>fg c.1 c.2.1 c.2.2.1 (pe3 c) (pe4 c) (pe5 c) (pe6 c) (pe7 c) (pe8 c) (pe9 c) (pe10 c) (pf11 c) a.1 a.2 nx dn rt),qan _ 85 [true,true] qjn (A:=(qL1×qL1×(List (ByteArray×Bool))×Int×(List ae)×Int×Int×Int×(List ae)×Int×Int)) (fun x=>(x.1.1,x.1.2.1,x.2.2.1,(pe3 x).1,(pe3 x).2.1,(pe3 x).2.2.1,(pe3 (pe3 x)),(pe4 x).1,(pe4 x).2.1,(pe4 x).2.2.1,(pe3 (pe4 x)))) qjm (CE:=Unit) (E:=Unit) (fun c e=>((()),(()))) (fun c=>()) (fun{R} c dn rt=>qp c.1 c.2.1 c.2.2.1 (pe3 c) (pe4 c) (pe5 c) (pe6 c) (pe7 c) (pe8 c) (pe9 c) (pf10 c) dn rt)],bp 85 tt [true,true] [.tmp 10] qay (fun x=>(x.1.1,x.2.2.1))⟩
theorem uc:CtxM Try.prog ud:=gf fits mixed (mC qhy (mC ez (mC pp (mC wm (mC uj (mC g9 m0))))))
theorem qll:au Try.prog ud 0 (lc 0 Try.f84 4863):=lp rfl uc .z s0 (fun c a=>((c.1,(),(),(),c.2.1,c.2.2.1,(pe3 c),a.1,()),(((),()),a.2,((pe4 c),(pe5 c),(pe6 c),(pe7 c),()),((pe8 c),(pe9 c),(pe10 c),(pf11 c),()),(((),()),()),()))) (fun y=>((),y.2.2.1))
theorem qlm:au Try.prog ud 1 (jc Try.f84 31):=jn rfl uc (.two .z (.two .z (.two .z (.two .z (.two (.two .z (.s 0)) .z))))) (sC qll s0) (fun c=>((c.1,c.2.1,(),(),(),()),(((),()),c.2.2.1,((pe3 c),(pe4 c),(pe5 c),(pe6 c),()),((pe7 c),(pe8 c),(pe9 c),(pf10 c),()),(((),()),()),()))) (fun y=>((),()))
abbrev qbz:Mdl:=(aq (.cons (.d false a8.ty) (.cons (.d false a8.ty) (.cons (.d false qT1) (.cons (.d false qT1) (.cons (.fn 82 (.cons (.ptr 0) .nil)) .nil))))) [qt9,qoo] [true,true] 1 qay (B:=(Bool×(List (ByteArray×Bool)))) (fun b=>((b.1,()),(((),()),b.2,()))) (fun a=>pn a.1.1 a.1.2.1 a.1.2.2.1 (pe3 a.1) a.2.2.1))
theorem qjo:MdlOK Try.prog 84 qbz:=gc Try.func84 rfl uc (.two .z (.two .z (.two .z (.two .z (.s 1))))) (sC qlm s0)
def rb:Shp:=⟨[qiu],[qrv,qmi,qoo]⟩
abbrev qdi:Ctx ((Bool×(List (ByteArray×Bool)))):=⟨15,tt,false,false,[true,true,true],fl [(84,qbz)],gb [],bp 15 tt [true,true,true] [.tmp 5] rb (fun x=>(x.1.1,(pe3 x)))⟩
theorem qdh:CtxM Try.prog qdi:=gf fits mixed (mC qjo m0)
abbrev tf:Mdl:=(aq (.cons (.d false ab.ty) (.cons (.rp false a8.ty) (.cons (.rp false a8.ty) (.cons (.ptr 0) .nil)))) [qrv,qmi,qoo] [true,true,true] 1 rb (B:=(Bool×(List (ByteArray×Bool)))) (fun b=>((b.1,()),((((),()),()),((),()),b.2,()))) (fun a=>nc a.1.1 a.1.2.1 a.1.2.2.1 (pe3 a)))
theorem qbl:MdlOK Try.prog 83 tf:=gc Try.func83 rfl qdh .z s0
def jb:Shp:=⟨[qw4],[qrv,qmi,qoo]⟩
abbrev jy:Ctx ((Int×(List (ByteArray×Bool)))):=⟨19,tt,false,false,[true,true,true],fl [(83,tf)],gb [am _ 19 [true,true,true] qd (C:=((List ab)×a8×a8×Int)) (S:=(Int×(List (ByteArray×Bool)))) (fun x=>((x.1.1,x.1.2.1.1,x.1.2.1.2.1,x.1.2.2.1),((pe3 x.1),(pe3 x)))) qc (CE:=Unit) (E:=(List (ByteArray×Bool))) (fun c e=>((()),((((),()),()),((),()),e,()))) (fun c=>()) (fun{R} c a nx dn rt=>ca c.1 c.2.1 c.2.2.1 c.2.2.2 a.1 a.2 nx dn rt)],bp 19 tt [true,true,true] [.tmp 4] jb (fun x=>(x.1.1,(pe3 x)))⟩
theorem jw:CtxM Try.prog jy:=gf fits mixed (mC qbl m0)
theorem qq:au Try.prog jy 0 (lc 0 Try.f73 37):=lp rfl jw .z s0 (fun c a=>((c.1,(c.2.1,c.2.2.1,(),()),c.2.2.2,a.1,()),((((),()),()),((),()),a.2,()))) (fun y=>((),(pe3 y)))
abbrev jx:Mdl:=(aq (.cons (.d false (.slice ab.ty)) (.cons (.fn 83 (.cons (.rp false a8.ty) (.cons (.rp false a8.ty) (.cons (.ptr 0) .nil)))) .nil)) [qrv,qmi,qoo] [true,true,true] 1 jb (B:=(Int×(List (ByteArray×Bool)))) (fun b=>((b.1,()),((((),()),()),((),()),b.2,()))) (fun a=>ep a.1.1 a.1.2.1.1 a.1.2.1.2.1 (pe3 a)))
theorem qe:MdlOK Try.prog 73 jx:=gc Try.func73 rfl jw (.two .z (.two (.two .z (.s 0)) .z)) (sC qq s0)
def zq:Shp:=⟨[qw4],[]⟩
abbrev qa4:Ctx (Int):=⟨29,tt,false,false,[],fl [(81,n7),(73,jx)],gb [am _ 29 [] qhq (C:=((List ab)×(List ab)×Int×Int×(List ae)×Int×Int×Int×(List ae)×Int×Int)) (S:=(Int×(List (ByteArray×Bool)))) (fun x=>((x.1.1,(pe4 x.1),(pe5 x.1),x.2.1.1,x.2.1.2.1,x.2.1.2.2.1,(pe3 x.2.1),x.2.2.1.1,x.2.2.1.2.1,x.2.2.1.2.2.1,(pe3 x.2.2.1)),((pe6 x.1),(pe4 x)))) qhp (CE:=((List ab)×Int×(List ae)×Int×Int×Int×(List ae)×Int×Int)) (E:=(List (ByteArray×Bool))) (fun c e=>((c.1,(),(),(),()),((c.2.1,c.2.2.1,(pe3 c),(pe4 c),()),((pe5 c),(pe6 c),(pe7 c),(pf8 c),()),((),()),e,()))) (fun c=>(c.1,(pe3 c),(pe4 c),(pe5 c),(pe6 c),(pe7 c),(pe8 c),(pe9 c),(pf10 c))) (fun{R} c a nx dn rt=>lb c.1 c.2.1 c.2.2.1 (pe3 c) (pe4 c) (pe5 c) (pe6 c) (pe7 c) (pe8 c) (pe9 c) (pf10 c) a.1 a.2 nx dn rt)],bp 29 tt [] [.tmp 6] zq (fun x=>x.1.1)⟩
theorem qa3:CtxM Try.prog qa4:=gf fits mixed (mC nu (mC qe m0))
theorem qjy:au Try.prog qa4 0 (lc 0 Try.f48 75):=lp rfl qa3 (.two .z (.two .z (.two (.one (.two .z (.d [0,0,2,0,8,30,63] [6] []))) .z))) s0 (fun c a=>((c.1,(),(),(),c.2.1,c.2.2.1,a.1,()),(((pe3 c),(pe4 c),(pe5 c),(pe6 c),()),((pe7 c),(pe8 c),(pe9 c),(pf10 c),()),((),()),a.2,()))) (fun y=>((y.1.1,y.2.1.1,y.2.1.2.1,y.2.1.2.2.1,(pe3 y.2.1),y.2.2.1.1,y.2.2.1.2.1,y.2.2.1.2.2.1,(pe3 y.2.2.1)),(pe4 y)))
abbrev sj:Mdl:=(aq (.cons (.d false a8.ty) (.cons (.d false a8.ty) (.cons (.d false (.slice ab.ty)) .nil))) [] [] 1 zq (B:=Int) (fun b=>((b,()),(()))) (fun a=>la a.1.1 a.1.2.1 a.1.2.2.1))
theorem ya:MdlOK Try.prog 48 sj:=gc Try.func48 rfl qa3 (.two .z (.two .z (.two (.two .z (.s 0)) .z))) (sC qjy s0)
def qfo:Shp:=⟨[qiu],[]⟩
abbrev qut:Ctx (Bool):=⟨78,tt,false,false,[],fl [(43,xh),(44,qa5),(45,wj),(46,om),(19,eb),(36,js),(48,sj)],gb [],bp 78 tt [] [.tmp 8] qfo (fun x=>x.1.1)⟩
theorem qus:CtxM Try.prog qut:=gf fits mixed (mC yt (mC qdk (mC qav (mC yj (mC ez (mC p0 (mC ya m0)))))))
abbrev qhc:Mdl:=(aq (.cons (.d false a8.ty) (.cons (.d false a8.ty) (.cons (.d false qT1) (.cons (.d false f9.ty) .nil)))) [] [] 1 qfo (B:=Bool) (fun b=>((b,()),(()))) (fun a=>qcl a.1.1 a.1.2.1 a.1.2.2.1 (pe3 a.1)))
theorem qpa:MdlOK Try.prog 13 qhc:=gc Try.func13 rfl qus .z s0
def qj2:Shp:=⟨[qiu],[]⟩
abbrev q0g:Ctx (Bool):=⟨46,tt,false,false,[],fl [(33,qq7),(31,qj6),(13,qhc)],gb [],bp 46 tt [] [.tmp 0] qj2 (fun x=>x.1.1)⟩
theorem q0f:CtxM Try.prog q0g:=gf fits mixed (mC qxb (mC qsh (mC qpa m0)))
abbrev qmo:Mdl:=(aq .nil [] [] 1 qj2 (B:=Bool) (fun b=>((b,()),(()))) (fun a=>qg8))
theorem quh:MdlOK Try.prog 8 qmo:=gc Try.func8 rfl q0f .z s0
def qfl:Shp:=⟨[qiu],[]⟩
abbrev quj:Ctx (Bool):=⟨19,tt,false,false,[],fl [],gb [],bp 19 tt [] [.tmp 2] qfl (fun x=>x.1.1)⟩
theorem qui:CtxM Try.prog quj:=gf fits mixed m0
abbrev qg9:Mdl:=(aq (.cons (.d false ae.ty) .nil) [] [] 1 qfl (B:=Bool) (fun b=>((b,()),(()))) (fun a=>xd a.1.1))
theorem qo4:MdlOK Try.prog 35 qg9:=gc Try.func35 rfl qui .z s0
def fk:Shp:=⟨[qw4],[]⟩
abbrev f7:Ctx (Int):=⟨19,tt,false,false,[],fl [(35,qg9)],gb [am _ 19 [] nj (C:=((List ae)×Int)) (S:=Int) (fun x=>((x.1.1,x.1.2.2.1),(pe3 x.1))) ni (CE:=Unit) (E:=Unit) (fun c e=>((()),(()))) (fun c=>()) (fun{R} c a nx dn rt=>bx c.1 c.2 a nx dn rt)],bp 19 tt [] [.tmp 4] fk (fun x=>x.1.1)⟩
theorem fy:CtxM Try.prog f7:=gf fits mixed (mC qo4 m0)
theorem ny:au Try.prog f7 0 (lc 0 Try.f72 37):=lp rfl fy .z s0 (fun c a=>((c.1,(()),c.2,a,()),(()))) (fun y=>((),()))
abbrev f6:Mdl:=(aq (.cons (.d false (.slice ae.ty)) (.cons (.fn 35 .nil) .nil)) [] [] 1 fk (B:=Int) (fun b=>((b,()),(()))) (fun a=>de a.1.1))
theorem nk:MdlOK Try.prog 72 f6:=gc Try.func72 rfl fy (.two .z (.two (.two .z (.s 0)) .z)) (sC ny s0)
def eu:Shp:=⟨[qiu],[]⟩
abbrev mt:Ctx (Bool):=⟨9,tt,false,false,[],fl [(72,f6)],gb [],bp 9 tt [] [.tmp 4] eu (fun x=>x.1.1)⟩
theorem mr:CtxM Try.prog mt:=gf fits mixed (mC nk m0)
abbrev fc:Mdl:=(aq (.cons (.d false (.slice ae.ty)) (.cons (.fn 35 .nil) .nil)) [] [] 1 eu (B:=Bool) (fun b=>((b,()),(()))) (fun a=>ay a.1.1))
theorem me:MdlOK Try.prog 34 fc:=gc Try.func34 rfl mr .z s0
def qj3:Shp:=⟨[qiu],[]⟩
abbrev q0i:Ctx (Bool):=⟨32,tt,false,false,[],fl [(34,fc)],gb [],bp 32 tt [] [.tmp 2] qj3 (fun x=>x.1.1)⟩
theorem q0h:CtxM Try.prog q0i:=gf fits mixed (mC me m0)
abbrev qmp:Mdl:=(aq (.cons (.d false a8.ty) .nil) [] [] 1 qj3 (B:=Bool) (fun b=>((b,()),(()))) (fun a=>x4 a.1.1))
theorem quk:MdlOK Try.prog 9 qmp:=gc Try.func9 rfl q0h .z s0
def qha:Shp:=⟨[qiu],[]⟩
abbrev qxd:Ctx (Bool):=⟨13,tt,false,false,[],fl [],gb [],bp 13 tt [] [.tmp 2] qha (fun x=>x.1.1)⟩
theorem qxc:CtxM Try.prog qxd:=gf fits mixed m0
abbrev qj5:Mdl:=(aq (.cons (.d false ab.ty) .nil) [] [] 1 qha (B:=Bool) (fun b=>((b,()),(()))) (fun a=>qex a.1.1))
theorem qr5:MdlOK Try.prog 37 qj5:=gc Try.func37 rfl qxc .z s0
def km:Shp:=⟨[qw4],[]⟩
abbrev lm:Ctx (Int):=⟨19,tt,false,false,[],fl [(37,qj5)],gb [am _ 19 [] sr (C:=((List ab)×Int)) (S:=Int) (fun x=>((x.1.1,x.1.2.2.1),(pe3 x.1))) sq (CE:=Unit) (E:=Unit) (fun c e=>((()),(()))) (fun c=>()) (fun{R} c a nx dn rt=>cl c.1 c.2 a nx dn rt)],bp 19 tt [] [.tmp 4] km (fun x=>x.1.1)⟩
theorem lj:CtxM Try.prog lm:=gf fits mixed (mC qr5 m0)
theorem tm:au Try.prog lm 0 (lc 0 Try.f73 37):=lp rfl lj .z s0 (fun c a=>((c.1,(()),c.2,a,()),(()))) (fun y=>((),()))
abbrev ll:Mdl:=(aq (.cons (.d false (.slice ab.ty)) (.cons (.fn 37 .nil) .nil)) [] [] 1 km (B:=Int) (fun b=>((b,()),(()))) (fun a=>fp a.1.1))
theorem ss:MdlOK Try.prog 73 ll:=gc Try.func73 rfl lj (.two .z (.two (.two .z (.s 0)) .z)) (sC tm s0)
def iu:Shp:=⟨[qiu],[]⟩
abbrev ri:Ctx (Bool):=⟨9,tt,false,false,[],fl [(73,ll)],gb [],bp 9 tt [] [.tmp 4] iu (fun x=>x.1.1)⟩
theorem rh:CtxM Try.prog ri:=gf fits mixed (mC ss m0)
abbrev jr:Mdl:=(aq (.cons (.d false (.slice ab.ty)) (.cons (.fn 37 .nil) .nil)) [] [] 1 iu (B:=Bool) (fun b=>((b,()),(()))) (fun a=>en a.1.1))
theorem pz:MdlOK Try.prog 36 jr:=gc Try.func36 rfl rh .z s0
def qmr:Shp:=⟨[qiu],[]⟩
abbrev q2x:Ctx (Bool):=⟨10,tt,false,false,[],fl [(36,jr)],gb [],bp 10 tt [] [.tmp 2] qmr (fun x=>x.1.1)⟩
theorem q2w:CtxM Try.prog q2x:=gf fits mixed (mC pz m0)
abbrev qq9:Mdl:=(aq (.cons (.d false (.slice ab.ty)) .nil) [] [] 1 qmr (B:=Bool) (fun b=>((b,()),(()))) (fun a=>qew a.1.1))
theorem qxe:MdlOK Try.prog 11 qq9:=gc Try.func11 rfl q2w .z s0
def qh8:Shp:=⟨[qiu],[]⟩
abbrev qx0:Ctx (Bool):=⟨17,tt,false,false,[],fl [],gb [],bp 17 tt [] [.tmp 2] qh8 (fun x=>x.1.1)⟩
theorem qxz:CtxM Try.prog qx0:=gf fits mixed m0
abbrev qko:Mdl:=(aq (.cons (.d false (.int .u8)) .nil) [] [] 1 qh8 (B:=Bool) (fun b=>((b,()),(()))) (fun a=>uu a.1.1))
theorem qs0:MdlOK Try.prog 99 qko:=gc Try.func99 rfl qxz .z s0
def qh7:Shp:=⟨[qiu],[]⟩
abbrev qkn:Ctx (Bool):=⟨52,tt,false,false,[],fl [(99,qko)],gb [am _ 52 [] qsy (C:=ByteArray) (S:=Int) (fun x=>(x.1.1,x.1.2.1)) qsx (CE:=Unit) (E:=Unit) (fun c e=>((()),(()))) (fun c=>()) (fun{R} c a nx dn rt=>nv c a nx dn rt)],bp 52 tt [] [.tmp 2] qh7 (fun x=>x.1.1)⟩
theorem qkl:CtxM Try.prog qkn:=gf fits mixed (mC qs0 m0)
theorem qvu:au Try.prog qkn 0 (lc 0 Try.f74 75):=lp rfl qkl .z s0 (fun c a=>((c,a,()),(()))) (fun y=>((),()))
abbrev qkm:Mdl:=(aq (.cons (.d false .str) .nil) [] [] 1 qh7 (B:=Bool) (fun b=>((b,()),(()))) (fun a=>qaa a.1.1))
theorem qsz:MdlOK Try.prog 74 qkm:=gc Try.func74 rfl qkl (.two .z (.two .z (.two (.two .z (.s 0)) .z))) (sC qvu s0)
def qil:Shp:=⟨[qiu],[]⟩
abbrev qku:Ctx (Bool):=⟨41,tt,false,false,[],fl [],gb [am _ 41 [] qs5 (C:=(Int×qL1)) (S:=Int) (fun x=>((x.1.1,x.1.2.1),x.1.2.2.1)) qs4 (CE:=Unit) (E:=Unit) (fun c e=>((()),(()))) (fun c=>()) (fun{R} c a nx dn rt=>k6 c.1 c.2 a nx dn rt)],bp 41 tt [] [.tmp 4] qil (fun x=>x.1.1)⟩
theorem qks:CtxM Try.prog qku:=gf fits mixed m0
theorem qv2:au Try.prog qku 0 (lc 0 Try.f75 37):=lp rfl qks (.two .z (.two (.one (.two (.d [0,0,3,7,15,31,63,63,255,511,63,2047,4095,8191,16383,32767,65535,131071,131071,393215,1048575,2097151,131071,131071,12713983,29491199,67108863,134217727,268435455] [] []) .z)) .z)) s0 (fun c a=>((c.1,c.2,a,()),(()))) (fun y=>((),()))
abbrev qkt:Mdl:=(aq (.cons (.d false qT0) (.cons (.d false qT1) .nil)) [] [] 1 qil (B:=Bool) (fun b=>((b,()),(()))) (fun a=>ng a.1.1 a.1.2.1))
theorem qs6:MdlOK Try.prog 75 qkt:=gc Try.func75 rfl qks (.two .z (.two (.two .z (.s 0)) .z)) (sC qv2 s0)
def qkr:Shp:=⟨[qiu],[]⟩
abbrev qnq:Ctx (Bool):=⟨80,tt,false,false,[],fl [(74,qkm),(75,qkt)],gb [am _ 80 [] qv1 (C:=(Int×(List ae)×Int×Int)) (S:=Int) (fun x=>((x.2.1.1,x.2.1.2.1,x.2.1.2.2.1,(pe3 x.2.1)),x.1.2.1)) qv0 (CE:=Unit) (E:=Unit) (fun c e=>((()),(()))) (fun c=>()) (fun{R} c a nx dn rt=>uw c.1 c.2.1 c.2.2.1 c.2.2.2 a nx dn rt)],bp 80 tt [] [.tmp 2] qkr (fun x=>x.1.1)⟩
theorem qnp:CtxM Try.prog qnq:=gf fits mixed (mC qsz (mC qs6 m0))
theorem qx5:au Try.prog qnq 0 (lc 0 Try.f38 75):=lp rfl qnp .z s0 (fun c a=>(((),a,()),((c.1,c.2.1,c.2.2.1,c.2.2.2,()),()))) (fun y=>((),()))
abbrev qe6:Mdl:=(aq (.cons (.d false a8.ty) .nil) [] [] 1 qkr (B:=Bool) (fun b=>((b,()),(()))) (fun a=>yd a.1.1))
theorem qij:MdlOK Try.prog 38 qe6:=gc Try.func38 rfl qnp (.two .z (.two .z (.two (.two .z (.s 0)) .z))) (sC qx5 s0)
def qrn:Shp:=⟨[qiu],[]⟩
abbrev qvy:Ctx (Bool):=⟨18,tt,false,false,[],fl [],gb [am _ 18 [] q1e (C:=(qL1×Int)) (S:=Int) (fun x=>((x.1.1,x.1.2.1),x.1.2.2.1)) q1d (CE:=Unit) (E:=Unit) (fun c e=>((()),(()))) (fun c=>()) (fun{R} c a nx dn rt=>qab c.1 c.2 a nx dn rt)],bp 18 tt [] [.tmp 4] qrn (fun x=>x.1.1)⟩
theorem qvx:CtxM Try.prog qvy:=gf fits mixed m0
theorem q3f:au Try.prog qvy 0 (lc 0 Try.f41 37):=lp rfl qvx .z s0 (fun c a=>((c.1,c.2,a,()),(()))) (fun y=>((),()))
abbrev qe4:Mdl:=(aq (.cons (.d false qT1) (.cons (.d false qT0) .nil)) [] [] 1 qrn (B:=Bool) (fun b=>((b,()),(()))) (fun a=>n9 a.1.1 a.1.2.1))
theorem qe5:MdlOK Try.prog 41 qe4:=gc Try.func41 rfl qvx (.two .z (.two (.two .z (.s 0)) .z)) (sC q3f s0)
def qkw:Shp:=⟨[jie],[qmk]⟩
abbrev qad:Ctx (qL1):=⟨72,tt,false,false,[],fl [(41,qe4)],gb [am _ 72 [] qv4 (C:=(Int×Int×Int×(List ae)×Int×Int)) (S:=(Int×qL1)) (fun x=>((x.1.2.2.1,(pe3 x.1),x.2.1.1,x.2.1.2.1,x.2.1.2.2.1,(pe3 x.2.1)),((pe4 x.1),x.2.2.1))) qv3 (CE:=(Int×Int×Int×(List ae)×Int×Int)) (E:=qL1) (fun c e=>(((),(),c.1,c.2.1,()),((c.2.2.1,(pe3 c),(pe4 c),(pf5 c),()),e,()))) (fun c=>(c.1,c.2.1,c.2.2.1,(pe3 c),(pe4 c),(pf5 c))) (fun{R} c a nx dn rt=>o5 c.1 c.2.1 c.2.2.1 (pe3 c) (pe4 c) (pf5 c) a.1 a.2 nx dn rt),am _ 72 [] qv6 (C:=(Int×Int×(List ae)×Int×Int)) (S:=(Int×qL1)) (fun x=>((x.1.2.2.1,x.2.1.1,x.2.1.2.1,x.2.1.2.2.1,(pe3 x.2.1)),((pe3 x.1),x.2.2.1))) qv5 (CE:=(Int×Int×(List ae)×Int×Int)) (E:=qL1) (fun c e=>(((),(),c.1,()),((c.2.1,c.2.2.1,(pe3 c),(pf4 c),()),e,()))) (fun c=>(c.1,c.2.1,c.2.2.1,(pe3 c),(pf4 c))) (fun{R} c a nx dn rt=>o6 c.1 c.2.1 c.2.2.1 (pe3 c) (pf4 c) a.1 a.2 nx dn rt),am _ 72 [] qv8 (C:=(Int×(List ae)×Int×Int)) (S:=(Int×qL1)) (fun x=>((x.2.1.1,x.2.1.2.1,x.2.1.2.2.1,(pe3 x.2.1)),(x.1.2.2.1,x.2.2.1))) qv7 (CE:=Unit) (E:=qL1) (fun c e=>(((),()),(e,()))) (fun c=>()) (fun{R} c a nx dn rt=>uy c.1 c.2.1 c.2.2.1 c.2.2.2 a.1 a.2 nx dn rt)],bp 72 tt [] [.tmp 4] qkw (fun x=>x.2.1)⟩
theorem qac:CtxM Try.prog qad:=gf fits mixed (mC qe5 m0)
theorem qx6:au Try.prog qad 0 (lc 4 Try.f39 627275):=lp rfl qac .z s0 (fun c a=>(((),(),c.1,c.2.1,a.1,()),((c.2.2.1,(pe3 c),(pe4 c),(pf5 c),()),a.2,()))) (fun y=>((y.1.2.2.1,(pe3 y.1),y.2.1.1,y.2.1.2.1,y.2.1.2.2.1,(pe3 y.2.1)),y.2.2.1))
theorem qx7:au Try.prog qad 1 (lc 2 Try.f39 4683):=lp rfl qac (.two .z (.two (.one (.two (.two (.d [0,1,0,7,15,31,0,0,192,448,1023,2047] [] []) .z) (.two .z (.s 0)))) .z)) (sC qx6 s0) (fun c a=>(((),(),c.1,a.1,()),((c.2.1,c.2.2.1,(pe3 c),(pf4 c),()),a.2,()))) (fun y=>((y.1.2.2.1,y.2.1.1,y.2.1.2.1,y.2.1.2.2.1,(pe3 y.2.1)),y.2.2.1))
theorem qx8:au Try.prog qad 2 (lc 0 Try.f39 75):=lp rfl qac (.two .z (.two (.one (.two .z (.s 1))) .z)) (sC qx7 s0) (fun c a=>(((),(),a.1,()),((c.1,c.2.1,c.2.2.1,c.2.2.2,()),a.2,()))) (fun y=>((),y.2.1))
abbrev qnx:Mdl:=(aq (.cons (.d false a8.ty) (.cons (.d false qT0) .nil)) [] [] 1 qkw (B:=qL1) (fun b=>(((),()),(b,()))) (fun a=>ye a.1.1 a.1.2.1))
theorem qv9:MdlOK Try.prog 39 qnx:=gc Try.func39 rfl qac (.two .z (.two .z (.two (.two .z (.s 2)) .z))) (sC qx8 s0)
def qge:Shp:=⟨[(0, .d true a8.ty)],[]⟩
abbrev qii:Ctx (a8):=⟨42,tt,false,false,[],fl [],gb [am _ 42 [] qqj (C:=(Int×(List ae)×Int×Int×Int×(List ae)×Int×Int×Int×Int×Int)) (S:=(Int×(List ae))) (fun x=>((x.2.1.1,x.2.1.2.1,x.2.1.2.2.1,(pe3 x.2.1),x.2.2.1.1,x.2.2.1.2.1,x.2.2.1.2.2.1,(pe3 x.2.2.1),(pe3 x).1,(pe3 x).2.2.1,(pe3 (pe3 x))),((pe3 x.1),(pe4 x)))) qqi (CE:=(Int×(List ae)×Int×Int×Int×Int×Int)) (E:=(List ae)) (fun c e=>(((),(),()),((c.1,c.2.1,c.2.2.1,(pe3 c),()),((pe4 c),(),(pe5 c),(pf6 c),()),e,()))) (fun c=>((pe4 c),(pe5 c),(pe6 c),(pe7 c),(pe8 c),(pe9 c),(pf10 c))) (fun{R} c a nx dn rt=>pw c.1 c.2.1 c.2.2.1 (pe3 c) (pe4 c) (pe5 c) (pe6 c) (pe7 c) (pe8 c) (pe9 c) (pf10 c) a.1 a.2 nx dn rt)],bp 42 tt [] [.cell 2 24] qge (fun x=>x.1.1)⟩
theorem qig:CtxM Try.prog qii:=gf fits mixed m0
theorem qs3:au Try.prog qii 0 (lc 0 Try.f40 75):=lp rfl qig (.two .z (.two (.one (.two .z (.d [0,1,0,4,0,0,32,112,0,0,512,2032,4092,8188,16383,32767,65535] [7,11,12,13,14,16] []))) .z)) s0 (fun c a=>(((),(),(),a.1,()),((c.1,c.2.1,c.2.2.1,(pe3 c),()),((pe4 c),(pe5 c),(pe6 c),(pe7 c),()),((pe8 c),(),(pe9 c),(pf10 c),()),a.2,()))) (fun y=>((y.2.1.1,y.2.1.2.1,y.2.1.2.2.1,(pe3 y.2.1),y.2.2.1.1,y.2.2.1.2.2.1,(pe3 y.2.2.1)),(pe3 y)))
abbrev qih:Mdl:=(aq (.cons (.d false a8.ty) .nil) [] [] 1 qge (B:=a8) (fun b=>((b,()),(()))) (fun a=>xn a.1.1))
theorem qqk:MdlOK Try.prog 40 qih:=gc Try.func40 rfl qig (.two .z (.two .z (.two (.two .z (.s 0)) .z))) (sC qs3 s0)
def qnz:Shp:=⟨[qiu],[]⟩
abbrev qrr:Ctx (Bool):=⟨18,tt,false,false,[],fl [(41,qe4)],gb [am _ 18 [] qya (C:=(qL1×qL1)) (S:=Int) (fun x=>((x.1.1,x.1.2.1),x.1.2.2.1)) qx9 (CE:=Unit) (E:=Unit) (fun c e=>((()),(()))) (fun c=>()) (fun{R} c a nx dn rt=>xo c.1 c.2 a nx dn rt)],bp 18 tt [] [.tmp 4] qnz (fun x=>x.1.1)⟩
theorem qrp:CtxM Try.prog qrr:=gf fits mixed (mC qe5 m0)
theorem q1g:au Try.prog qrr 0 (lc 0 Try.f42 37):=lp rfl qrp .z s0 (fun c a=>((c.1,c.2,a,()),(()))) (fun y=>((),()))
abbrev qrq:Mdl:=(aq (.cons (.d false qT1) (.cons (.d false qT1) .nil)) [] [] 1 qnz (B:=Bool) (fun b=>((b,()),(()))) (fun a=>qbc a.1.1 a.1.2.1))
theorem qyb:MdlOK Try.prog 42 qrq:=gc Try.func42 rfl qrp (.two .z (.two (.two .z (.s 0)) .z)) (sC q1g s0)
def qdz:Shp:=⟨[qiu],[]⟩
abbrev y8:Ctx (Bool):=⟨81,tt,false,false,[],fl [(38,qe6),(39,qnx),(40,qih),(41,qe4),(42,qrq)],gb [am _ 81 [] qns (C:=(qL1×qL1×Int×(List ae)×Int×Int)) (S:=Int) (fun x=>((x.1.2.1,x.1.2.2.1,x.2.1.1,x.2.1.2.1,x.2.1.2.2.1,(pe3 x.2.1)),(pe3 x.1))) qnr (CE:=(qL1×qL1×Int×(List ae)×Int×Int)) (E:=Unit) (fun c e=>(((),c.1,c.2.1,()),((c.2.2.1,(pe3 c),(pe4 c),(pf5 c),()),()))) (fun c=>(c.1,c.2.1,c.2.2.1,(pe3 c),(pe4 c),(pf5 c))) (fun{R} c a nx dn rt=>ld c.1 c.2.1 c.2.2.1 (pe3 c) (pe4 c) (pf5 c) a nx dn rt),am _ 81 [] qnu (C:=(qL1×qL1×Int×(List ae)×Int×Int)) (S:=Int) (fun x=>((x.1.2.1,x.1.2.2.1,x.2.1.1,x.2.1.2.1,x.2.1.2.2.1,(pe3 x.2.1)),(pe3 x.1))) qnt (CE:=Unit) (E:=Unit) (fun c e=>((()),(()))) (fun c=>()) (fun{R} c a nx dn rt=>oh c.1 c.2.1 c.2.2.1 (pe3 c) (pe4 c) (pf5 c) a nx dn rt)],bp 81 tt [] [.tmp 2] qdz (fun x=>x.1.1)⟩
theorem y7:CtxM Try.prog y8:=gf fits mixed (mC qij (mC qv9 (mC qqk (mC qe5 (mC qyb m0)))))
theorem qqm:au Try.prog y8 1 (lc 2 Try.f12 607):=lp rfl y7 .z s0 (fun c a=>(((),c.1,c.2.1,a,()),((c.2.2.1,(pe3 c),(pe4 c),(pf5 c),()),()))) (fun y=>((),()))
theorem qql:au Try.prog y8 0 (lc 0 Try.f12 303):=lp rfl y7 .z s0 (fun c a=>(((),c.1,c.2.1,a,()),((c.2.2.1,(pe3 c),(pe4 c),(pf5 c),()),()))) (fun y=>((y.1.2.1,y.1.2.2.1,y.2.1.1,y.2.1.2.1,y.2.1.2.2.1,(pe3 y.2.1)),()))
abbrev qgf:Mdl:=(aq (.cons (.d false a8.ty) .nil) [] [] 1 qdz (B:=Bool) (fun b=>((b,()),(()))) (fun a=>mj a.1.1))
theorem qnv:MdlOK Try.prog 12 qgf:=gc Try.func12 rfl y7 (.two .z (.two .z (.two .z (.two (.d [0,1,0,4,15,31] [] []) (.two (.two .z (.s 0)) (.two (.two .z (.s 1)) .z)))))) (sC qql (sC qqm s0))
def qro:Shp:=⟨[jsl],[]⟩
abbrev q47:Ctx (qL1):=⟨13,tt,false,false,[],fl [],gb [],bp 13 tt [] [.tmp 4] qro (fun x=>x.1.1)⟩
theorem q46:CtxM Try.prog q47:=gf fits mixed m0
abbrev qvz:Mdl:=(aq (.cons (.d false a8.ty) (.cons (.d false qT0) .nil)) [] [] 1 qro (B:=qL1) (fun b=>((b,()),(()))) (fun a=>qi3 a.1.1 a.1.2.1))
theorem q1f:MdlOK Try.prog 15 qvz:=gc Try.func15 rfl q46 .z s0
def qga:Shp:=⟨[qiu],[]⟩
abbrev qia:Ctx (Bool):=⟨26,tt,false,false,[],fl [],gb [am _ 26 [] qqf (C:=(qL1×qL1)) (S:=Int) (fun x=>((x.1.1,x.1.2.1),x.1.2.2.1)) qqe (CE:=Unit) (E:=Unit) (fun c e=>((()),(()))) (fun c=>()) (fun{R} c a nx dn rt=>mi c.1 c.2 a nx dn rt)],bp 26 tt [] [.tmp 4] qga (fun x=>x.1.1)⟩
theorem qh9:CtxM Try.prog qia:=gf fits mixed m0
theorem qs1:au Try.prog qia 0 (lc 0 Try.f22 75):=lp rfl qh9 (.two .z (.two (.one (.two (.d [0,0,3,7,0,0,48,112,255] [] []) .z)) .z)) s0 (fun c a=>((c.1,c.2,a,()),(()))) (fun y=>((),()))
abbrev qba:Mdl:=(aq (.cons (.d false qT1) (.cons (.d false qT1) .nil)) [] [] 1 qga (B:=Bool) (fun b=>((b,()),(()))) (fun a=>n8 a.1.1 a.1.2.1))
theorem qdv:MdlOK Try.prog 22 qba:=gc Try.func22 rfl qh9 (.two .z (.two .z (.two (.two .z (.s 0)) .z))) (sC qs1 s0)
def zg:Shp:=⟨[qiu,q8h,q7l],[]⟩
abbrev qle:Ctx ((Bool×Int×Int)):=⟨33,tt,false,false,[],fl [(43,xh),(44,qa5),(48,sj)],gb [],bp 33 tt [] [.tmp 6, .tmp 7, .tmp 8] zg (fun x=>(x.1.1,x.1.2.1,x.1.2.2.1))⟩
theorem qld:CtxM Try.prog qle:=gf fits mixed (mC yt (mC qdk (mC ya m0)))
abbrev qat:Mdl:=(aq (.cons (.d false a8.ty) (.cons (.d false a8.ty) (.cons (.d false (.slice ab.ty)) .nil))) [] [] 3 zg (B:=(Bool×Int×Int)) (fun b=>((b.1,b.2.1,b.2.2,()),(()))) (fun a=>ub a.1.1 a.1.2.1 a.1.2.2.1))
theorem qhf:MdlOK Try.prog 23 qat:=gc Try.func23 rfl qld .z s0
def qky:Shp:=⟨[jsb],[jfv]⟩
abbrev qn5:Ctx ((List ab)):=⟨26,tt,false,false,[],fl [],gb [am _ 26 [] qwd (C:=(List ab)) (S:=(Int×(List ab))) (fun x=>(x.1.1,(x.1.2.2.1,x.2.1))) qwc (CE:=Unit) (E:=(List ab)) (fun c e=>(((),()),(e,()))) (fun c=>()) (fun{R} c a nx dn rt=>u3 c a.1 a.2 nx dn rt)],bp 26 tt [] [.tmp 2] qky (fun x=>x.2.1)⟩
theorem qn3:CtxM Try.prog qn5:=gf fits mixed m0
theorem qyc:au Try.prog qn5 0 (lc 0 Try.f24 75):=lp rfl qn3 (.two .z (.two (.one (.d [0,0,0,6,14,30,0,0,192,448,960,2046,4094,8191,16383] [13,14] [])) .z)) s0 (fun c a=>((c,(),a.1,()),(a.2,()))) (fun y=>((),y.2.1))
abbrev qn4:Mdl:=(aq (.cons (.d true (.slice ab.ty)) .nil) [] [] 1 qky (B:=(List ab)) (fun b=>(((),()),(b,()))) (fun a=>qcb a.1.1))
theorem qwe:MdlOK Try.prog 24 qn4:=gc Try.func24 rfl qn3 (.two .z (.two .z (.two (.two .z (.s 0)) .z))) (sC qyc s0)
def qgc:Shp:=⟨[qiu],[]⟩
abbrev qif:Ctx (Bool):=⟨29,tt,false,false,[],fl [],gb [am _ 29 [] qqh (C:=qL1) (S:=Int) (fun x=>(x.1.1,x.1.2.1)) qqg (CE:=Unit) (E:=Unit) (fun c e=>((()),(()))) (fun c=>()) (fun{R} c a nx dn rt=>pu c a nx dn rt)],bp 29 tt [] [.tmp 4] qgc (fun x=>x.1.1)⟩
theorem qie:CtxM Try.prog qif:=gf fits mixed m0
theorem qs2:au Try.prog qif 0 (lc 0 Try.f56 75):=lp rfl qie .z s0 (fun c a=>((c,a,()),(()))) (fun y=>((),()))
abbrev qbb:Mdl:=(aq (.cons (.d false a8.ty) (.cons (.d false qT1) .nil)) [] [] 1 qgc (B:=Bool) (fun b=>((b,()),(()))) (fun a=>gg a.1.1 a.1.2.1))
theorem qdw:MdlOK Try.prog 56 qbb:=gc Try.func56 rfl qie (.two .z (.two .z (.two (.two .z (.s 0)) .z))) (sC qs2 s0)
def qd1:Shp:=⟨[qiu],[]⟩
abbrev qgj:Ctx (Bool):=⟨32,tt,false,false,[],fl [(56,qbb)],gb [am _ 32 [] qn1 (C:=((List ab)×Int×(List ae)×Int×Int×Int×(List ae)×Int×Int)) (S:=Int) (fun x=>((x.1.1,x.2.1.1,x.2.1.2.1,x.2.1.2.2.1,(pe3 x.2.1),x.2.2.1.1,x.2.2.1.2.1,x.2.2.1.2.2.1,(pe3 x.2.2.1)),(pe3 x.1))) qn0 (CE:=Unit) (E:=Unit) (fun c e=>((()),(()))) (fun c=>()) (fun{R} c a nx dn rt=>oi c.1 c.2.1 c.2.2.1 (pe3 c) (pe4 c) (pe5 c) (pe6 c) (pe7 c) (pf8 c) a nx dn rt)],bp 32 tt [] [.tmp 6] qd1 (fun x=>x.1.1)⟩
theorem qgh:CtxM Try.prog qgj:=gf fits mixed (mC qdw m0)
theorem qqn:au Try.prog qgj 0 (lc 0 Try.f25 37):=lp rfl qgh (.two .z (.two (.one (.two (.d [0,0,0,6,14,30,63,127,255,511,511,511,3583,7679,15871,32767,65535,131071] [] []) .z)) .z)) s0 (fun c a=>((c.1,(),(),a,()),((c.2.1,c.2.2.1,(pe3 c),(pe4 c),()),((pe5 c),(pe6 c),(pe7 c),(pf8 c),()),()))) (fun y=>((),()))
abbrev qgi:Mdl:=(aq (.cons (.d false a8.ty) (.cons (.d false a8.ty) (.cons (.d false (.slice ab.ty)) .nil))) [] [] 1 qd1 (B:=Bool) (fun b=>((b,()),(()))) (fun a=>uz a.1.1 a.1.2.1 a.1.2.2.1))
theorem qn2:MdlOK Try.prog 25 qgi:=gc Try.func25 rfl qgh (.two .z (.two (.two .z (.s 0)) .z)) (sC qqn s0)
def qk3:Shp:=⟨[qiu],[]⟩
abbrev q1i:Ctx (Bool):=⟨11,tt,false,false,[],fl [(15,qvz),(22,qba)],gb [],bp 11 tt [] [.tmp 4] qk3 (fun x=>x.1.1)⟩
theorem q1h:CtxM Try.prog q1i:=gf fits mixed (mC q1f (mC qdv m0))
abbrev qof:Mdl:=(aq (.cons (.d false a8.ty) (.cons (.d false qT1) .nil)) [] [] 1 qk3 (B:=Bool) (fun b=>((b,()),(()))) (fun a=>o9 a.1.1 a.1.2.1))
theorem qwn:MdlOK Try.prog 90 qof:=gc Try.func90 rfl q1h .z s0
def qrl:Shp:=⟨[qiu],[]⟩
abbrev qvw:Ctx (Bool):=⟨32,tt,false,false,[],fl [],gb [am _ 32 [] q1a (C:=(qL1×Int×Int×(List ae)×Int×Int)) (S:=Int) (fun x=>((x.1.1,x.1.2.1,x.2.1.1,x.2.1.2.1,x.2.1.2.2.1,(pe3 x.2.1)),(pe3 x.1))) q09 (CE:=Unit) (E:=Unit) (fun c e=>((()),(()))) (fun c=>()) (fun{R} c a nx dn rt=>uv c.1 c.2.1 c.2.2.1 (pe3 c) (pe4 c) (pf5 c) a nx dn rt)],bp 32 tt [] [.tmp 6] qrl (fun x=>x.1.1)⟩
theorem qvv:CtxM Try.prog qvw:=gf fits mixed m0
theorem q3e:au Try.prog qvw 0 (lc 0 Try.f91 37):=lp rfl qvv .z s0 (fun c a=>((c.1,c.2.1,(),a,()),((c.2.2.1,(pe3 c),(pe4 c),(pf5 c),()),()))) (fun y=>((),()))
abbrev qlz:Mdl:=(aq (.cons (.d false a8.ty) (.cons (.d false qT1) (.cons (.d false qT0) .nil))) [] [] 1 qrl (B:=Bool) (fun b=>((b,()),(()))) (fun a=>qah a.1.1 a.1.2.1 a.1.2.2.1))
theorem qnl:MdlOK Try.prog 91 qlz:=gc Try.func91 rfl qvv (.two .z (.two (.two .z (.s 0)) .z)) (sC q3e s0)
def qno:Shp:=⟨[jie,q8h],[qmk]⟩
abbrev qid:Ctx ((Int×qL1)):=⟨112,tt,false,false,[],fl [(38,qe6),(56,qbb),(91,qlz)],gb [am _ 112 [] qx2 (C:=(Int×Int×(List ae)×Int×Int)) (S:=(Int×qL1)) (fun x=>((x.1.1,x.2.1.1,x.2.1.2.1,x.2.1.2.2.1,(pe3 x.2.1)),((pe3 x.1),x.2.2.1))) qx1 (CE:=(Int×Int×(List ae)×Int×Int)) (E:=qL1) (fun c e=>((c.1,(),(),()),((c.2.1,c.2.2.1,(pe3 c),(pf4 c),()),e,()))) (fun c=>(c.1,c.2.1,c.2.2.1,(pe3 c),(pf4 c))) (fun{R} c a nx dn rt=>xl c.1 c.2.1 c.2.2.1 (pe3 c) (pf4 c) a.1 a.2 nx dn rt),am _ 112 [] qx4 (C:=(Int×Int×(List ae)×Int×Int)) (S:=(Int×qL1)) (fun x=>((x.1.1,x.2.1.1,x.2.1.2.1,x.2.1.2.2.1,(pe3 x.2.1)),((pe3 x.1),x.2.2.1))) qx3 (CE:=(Int×(List ae)×Int×Int)) (E:=qL1) (fun c e=>(((),(),()),((c.1,c.2.1,c.2.2.1,c.2.2.2,()),e,()))) (fun c=>(c.2.1,c.2.2.1,(pe3 c),(pf4 c))) (fun{R} c a nx dn rt=>xm c.1 c.2.1 c.2.2.1 (pe3 c) (pf4 c) a.1 a.2 nx dn rt)],bp 112 tt [] [.tmp 6, .tmp 7] qno (fun x=>(x.1.2.1,x.2.1))⟩
theorem qib:CtxM Try.prog qid:=gf fits mixed (mC qij (mC qdw (mC qnl m0)))
theorem q1c:au Try.prog qid 1 (lc 2 Try.f70 1215):=lp rfl qib (.two .z (.two (.one (.d [0,0,2,0,14,30,62,0,254,510,0,0,2048,0,14336,30720,63488,0,260096,522240,1047552,2096128,4193280,8388607,16777215] [24] [])) .z)) s0 (fun c a=>((c.1,(),(),a.1,()),((c.2.1,c.2.2.1,(pe3 c),(pf4 c),()),a.2,()))) (fun y=>((y.2.1.1,y.2.1.2.1,y.2.1.2.2.1,(pe3 y.2.1)),y.2.2.1))
theorem q1b:au Try.prog qid 0 (lc 0 Try.f70 607):=lp rfl qib (.two .z (.two (.one (.d [0,0,2,0,14,30,62,0,254,510,0,0,2048,0,14336,30720,63488,0,260096,522240,1047552,2096128,4193280,8388607,16777215] [24] [])) .z)) s0 (fun c a=>((c.1,(),(),a.1,()),((c.2.1,c.2.2.1,(pe3 c),(pf4 c),()),a.2,()))) (fun y=>((y.1.1,y.2.1.1,y.2.1.2.1,y.2.1.2.2.1,(pe3 y.2.1)),y.2.2.1))
abbrev qic:Mdl:=(aq (.cons (.d false a8.ty) (.cons (.d false qT1) (.cons (.d false qT0) .nil))) [] [] 2 qno (B:=(Int×qL1)) (fun b=>(((),b.1,()),(b.2,()))) (fun a=>sk a.1.1 a.1.2.1 a.1.2.2.1))
theorem qkp:MdlOK Try.prog 70 qic:=gc Try.func70 rfl qib (.two .z (.two .z (.two .z (.two .z (.two .z (.two (.two .z (.s 0)) (.two (.two .z (.s 1)) .z))))))) (sC q1b (sC q1c s0))
def qwb:Shp:=⟨[qiu],[]⟩
abbrev qzd:Ctx (Bool):=⟨30,tt,false,false,[],fl [(22,qba)],gb [am _ 30 [] q3h (C:=((List ab)×qL1×qL1)) (S:=Int) (fun x=>((x.1.1,x.1.2.1,x.1.2.2.1),(pe3 x.1))) q3g (CE:=Unit) (E:=Unit) (fun c e=>((()),(()))) (fun c=>()) (fun{R} c a nx dn rt=>qca c.1 c.2.1 c.2.2 a nx dn rt)],bp 30 tt [] [.tmp 6] qwb (fun x=>x.1.1)⟩
theorem qzb:CtxM Try.prog qzd:=gf fits mixed (mC qdv m0)
theorem q48:au Try.prog qzd 0 (lc 0 Try.f112 37):=lp rfl qzb .z s0 (fun c a=>((c.1,c.2.1,c.2.2,a,()),(()))) (fun y=>((),()))
abbrev qzc:Mdl:=(aq (.cons (.d false (.slice ab.ty)) (.cons (.d false qT1) (.cons (.d false qT1) .nil))) [] [] 1 qwb (B:=Bool) (fun b=>((b,()),(()))) (fun a=>qim a.1.1 a.1.2.1 a.1.2.2.1))
theorem q3i:MdlOK Try.prog 112 qzc:=gc Try.func112 rfl qzb (.two .z (.two (.two .z (.s 0)) .z)) (sC q48 s0)
def qd3:Shp:=⟨[qiu],[]⟩
abbrev za:Ctx (Bool):=⟨52,tt,false,false,[],fl [(112,qzc),(70,qic)],gb [am _ 52 [] qob (C:=((List ab)×ByteArray×qL1×qL1×Int×(List ae)×Int×Int)) (S:=Int) (fun x=>((x.1.1,x.1.2.1,x.1.2.2.1,(pe3 x.1),x.2.1.1,x.2.1.2.1,x.2.1.2.2.1,(pe3 x.2.1)),(pe5 x.1))) qoa (CE:=Unit) (E:=Unit) (fun c e=>((()),(()))) (fun c=>()) (fun{R} c a nx dn rt=>lf c.1 c.2.1 c.2.2.1 (pe3 c) (pe4 c) (pe5 c) (pe6 c) (pf7 c) a nx dn rt),qan _ 52 [] qod (A:=((List ab)×ByteArray×qL1×qL1×Int×(List ae)×Int×Int)) (fun x=>(x.1.1,x.1.2.1,x.1.2.2.1,(pe3 x.1),x.2.1.1,x.2.1.2.1,x.2.1.2.2.1,(pe3 x.2.1))) qoc (CE:=Unit) (E:=Unit) (fun c e=>((()),(()))) (fun c=>()) (fun{R} c dn rt=>u5 c.1 c.2.1 c.2.2.1 (pe3 c) (pe4 c) (pe5 c) (pe6 c) (pf7 c) dn rt)],bp 52 tt [] [.tmp 10] qd3 (fun x=>x.1.1)⟩
theorem y9:CtxM Try.prog za:=gf fits mixed (mC q3i (mC qkp m0))
theorem qqo:au Try.prog za 0 (lc 0 Try.f92 75):=lp rfl y9 .z s0 (fun c a=>((c.1,c.2.1,c.2.2.1,(pe3 c),(),a,()),(((pe4 c),(pe5 c),(pe6 c),(pf7 c),()),()))) (fun y=>((),()))
theorem qqp:au Try.prog za 1 (jc Try.f92 7):=jn rfl y9 (.two (.two .z (.s 0)) .z) (sC qqo s0) (fun c=>((c.1,c.2.1,c.2.2.1,(pe3 c),(),()),(((pe4 c),(pe5 c),(pe6 c),(pf7 c),()),()))) (fun y=>((),()))
abbrev qgk:Mdl:=(aq (.cons (.d false a8.ty) (.cons (.d false (.slice ab.ty)) (.cons (.d false .str) (.cons (.d false qT1) (.cons (.d false qT1) .nil))))) [] [] 1 qd3 (B:=Bool) (fun b=>((b,()),(()))) (fun a=>o8 a.1.1 a.1.2.1 a.1.2.2.1 (pe3 a.1) (pe4 a.1)))
theorem qoe:MdlOK Try.prog 92 qgk:=gc Try.func92 rfl y9 (.two .z (.two .z (.s 1))) (sC qqp s0)
def qk0:Shp:=⟨[qiu],[]⟩
abbrev qe8:Ctx (Bool):=⟨61,tt,false,false,[],fl [(90,qof),(91,qlz),(70,qic),(92,qgk)],gb [am _ 61 [] qwg (C:=((List ab)×Int×(List ae)×Int×Int×Int×(List ae)×Int×Int×qL1×qL1)) (S:=Int) (fun x=>((x.1.1,x.2.1.1,x.2.1.2.1,x.2.1.2.2.1,(pe3 x.2.1),x.2.2.1.1,x.2.2.1.2.1,x.2.2.1.2.2.1,(pe3 x.2.2.1),(pe3 x).1,(pe3 x).2.1),(pe4 x.1))) qwf (CE:=Unit) (E:=Unit) (fun c e=>((()),(()))) (fun c=>()) (fun{R} c a nx dn rt=>o7 c.1 c.2.1 c.2.2.1 (pe3 c) (pe4 c) (pe5 c) (pe6 c) (pe7 c) (pe8 c) (pe9 c) (pf10 c) a nx dn rt),qan _ 61 [] qwi (A:=((List ab)×Int×(List ae)×Int×Int×Int×(List ae)×Int×Int×qL1×qL1)) (fun x=>(x.1.1,x.2.1.1,x.2.1.2.1,x.2.1.2.2.1,(pe3 x.2.1),x.2.2.1.1,x.2.2.1.2.1,x.2.2.1.2.2.1,(pe3 x.2.2.1),(pe3 x).1,(pe3 x).2.1)) qwh (CE:=Unit) (E:=Unit) (fun c e=>((()),(()))) (fun c=>()) (fun{R} c dn rt=>qbd c.1 c.2.1 c.2.2.1 (pe3 c) (pe4 c) (pe5 c) (pe6 c) (pe7 c) (pe8 c) (pe9 c) (pf10 c) dn rt)],bp 61 tt [] [.tmp 8] qk0 (fun x=>x.1.1)⟩
theorem qe7:CtxM Try.prog qe8:=gf fits mixed (mC qwn (mC qnl (mC qkp (mC qoe m0))))
theorem qyd:au Try.prog qe8 0 (lc 0 Try.f57 75):=lp rfl qe7 (.two .z (.two (.one (.two .z (.two .z (.two (.d [0,1,3,7,7,7,39,7,231,487,999,7,7,4103,16383,32767,65535] [] []) .z)))) .z)) s0 (fun c a=>((c.1,(),(),(),a,()),((c.2.1,c.2.2.1,(pe3 c),(pe4 c),()),((pe5 c),(pe6 c),(pe7 c),(pe8 c),()),((pe9 c),(pf10 c),()),()))) (fun y=>((),()))
theorem qye:au Try.prog qe8 1 (jc Try.f57 7):=jn rfl qe7 (.two (.two .z (.s 0)) .z) (sC qyd s0) (fun c=>((c.1,(),(),(),()),((c.2.1,c.2.2.1,(pe3 c),(pe4 c),()),((pe5 c),(pe6 c),(pe7 c),(pe8 c),()),((pe9 c),(pf10 c),()),()))) (fun y=>((),()))
abbrev qn6:Mdl:=(aq (.cons (.d false a8.ty) (.cons (.d false a8.ty) (.cons (.d false (.slice ab.ty)) (.cons (.d false ab.ty) .nil)))) [] [] 1 qk0 (B:=Bool) (fun b=>((b,()),(()))) (fun a=>yf a.1.1 a.1.2.1 a.1.2.2.1 (pe3 a.1)))
theorem qwj:MdlOK Try.prog 57 qn6:=gc Try.func57 rfl qe7 (.two .z (.two .z (.s 1))) (sC qye s0)
def qk2:Shp:=⟨[qw4],[]⟩
abbrev qn9:Ctx (Int):=⟨24,tt,false,false,[],fl [(57,qn6)],gb [am _ 24 [] qwl (C:=((List ab)×Int×(List ae)×Int×Int×Int×(List ae)×Int×Int)) (S:=Int) (fun x=>((x.1.1,x.2.1.1,x.2.1.2.1,x.2.1.2.2.1,(pe3 x.2.1),x.2.2.1.1,x.2.2.1.2.1,x.2.2.1.2.2.1,(pe3 x.2.2.1)),(pe3 x.1))) qwk (CE:=Unit) (E:=Unit) (fun c e=>((()),(()))) (fun c=>()) (fun{R} c a nx dn rt=>u4 c.1 c.2.1 c.2.2.1 (pe3 c) (pe4 c) (pe5 c) (pe6 c) (pe7 c) (pf8 c) a nx dn rt)],bp 24 tt [] [.tmp 6] qk2 (fun x=>x.1.1)⟩
theorem qn7:CtxM Try.prog qn9:=gf fits mixed (mC qwj m0)
theorem qyf:au Try.prog qn9 0 (lc 0 Try.f26 37):=lp rfl qn7 (.two .z (.two (.one (.two (.d [0,0,0,0,0,24,56,127,255] [] []) .z)) .z)) s0 (fun c a=>((c.1,(),(),a,()),((c.2.1,c.2.2.1,(pe3 c),(pe4 c),()),((pe5 c),(pe6 c),(pe7 c),(pf8 c),()),()))) (fun y=>((),()))
abbrev qn8:Mdl:=(aq (.cons (.d false a8.ty) (.cons (.d false a8.ty) (.cons (.d false (.slice ab.ty)) .nil))) [] [] 1 qk2 (B:=Int) (fun b=>((b,()),(()))) (fun a=>qcc a.1.1 a.1.2.1 a.1.2.2.1))
theorem qwm:MdlOK Try.prog 26 qn8:=gc Try.func26 rfl qn7 (.two .z (.two (.two .z (.s 0)) .z)) (sC qyf s0)
def qy:Shp:=⟨[qiu],[]⟩
abbrev qc2:Ctx (Bool):=⟨77,tt,false,false,[],fl [(8,qmo),(9,qmp),(11,qq9),(23,qat),(24,qn4),(12,qgf),(25,qgi),(26,qn8)],gb [],bp 77 tt [] [.tmp 6] qy (fun x=>x.1.1)⟩
theorem qc0:CtxM Try.prog qc2:=gf fits mixed (mC quh (mC quk (mC qxe (mC qhf (mC qwe (mC qnv (mC qn2 (mC qwm m0))))))))
abbrev qc1:Mdl:=(aq (.cons (.d true a8.ty) (.cons (.d true a8.ty) (.cons (.d true (.slice ab.ty)) .nil))) [] [] 1 qy (B:=Bool) (fun b=>((b,()),(()))) (fun a=>m7 a.1.1 a.1.2.1 a.1.2.2.1))
theorem qbk:MdlOK Try.prog 5 qc1:=gc Try.func5 rfl qc0 .z s0
end
end Go.Proofs.Ytdhfhpdadbopkaa
