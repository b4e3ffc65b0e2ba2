/-
  The functions compute what their models say. Made by program (mg3.py) out of the translation.
-/
import Derived.Test.YtdhfhpdadbopkaaGreatZ3Md
import Derived.Test.YtdhfhpdadbopkaaGreatZ3Tt
import Derived.Test.YtdhfhpdadbopkaaGreatZ3Ky
set_option linter.all false
set_option maxRecDepth 100000
namespace Go.Proofs.YtdhfhpdadbopkaaGreat
open Go.K Go.M
abbrev pe3{A0 A1 A2 A3 A4:Type}(x:A0×A1×A2×A3×A4):A3:=x.2.2.2.1
abbrev pe4{A0 A1 A2 A3 A4 A5:Type}(x:A0×A1×A2×A3×A4×A5):A4:=x.2.2.2.2.1
abbrev pe5{A0 A1 A2 A3 A4 A5 A6:Type}(x:A0×A1×A2×A3×A4×A5×A6):A5:=x.2.2.2.2.2.1
abbrev pe6{A0 A1 A2 A3 A4 A5 A6 A7:Type}(x:A0×A1×A2×A3×A4×A5×A6×A7):A6:=x.2.2.2.2.2.2.1
abbrev pe7{A0 A1 A2 A3 A4 A5 A6 A7 A8:Type}(x:A0×A1×A2×A3×A4×A5×A6×A7×A8):A7:=x.2.2.2.2.2.2.2.1
abbrev pe8{A0 A1 A2 A3 A4 A5 A6 A7 A8 A9:Type}(x:A0×A1×A2×A3×A4×A5×A6×A7×A8×A9):A8:=x.2.2.2.2.2.2.2.2.1
abbrev pe9{A0 A1 A2 A3 A4 A5 A6 A7 A8 A9 A10:Type}(x:A0×A1×A2×A3×A4×A5×A6×A7×A8×A9×A10):A9:=x.2.2.2.2.2.2.2.2.2.1
abbrev pe10{A0 A1 A2 A3 A4 A5 A6 A7 A8 A9 A10 A11:Type}(x:A0×A1×A2×A3×A4×A5×A6×A7×A8×A9×A10×A11):A10:=x.2.2.2.2.2.2.2.2.2.2.1
abbrev pe11{A0 A1 A2 A3 A4 A5 A6 A7 A8 A9 A10 A11 A12:Type}(x:A0×A1×A2×A3×A4×A5×A6×A7×A8×A9×A10×A11×A12):A11:=x.2.2.2.2.2.2.2.2.2.2.2.1
abbrev pe12{A0 A1 A2 A3 A4 A5 A6 A7 A8 A9 A10 A11 A12 A13:Type}(x:A0×A1×A2×A3×A4×A5×A6×A7×A8×A9×A10×A11×A12×A13):A12:=x.2.2.2.2.2.2.2.2.2.2.2.2.1
abbrev pe13{A0 A1 A2 A3 A4 A5 A6 A7 A8 A9 A10 A11 A12 A13 A14:Type}(x:A0×A1×A2×A3×A4×A5×A6×A7×A8×A9×A10×A11×A12×A13×A14):A13:=x.2.2.2.2.2.2.2.2.2.2.2.2.2.1
abbrev pe14{A0 A1 A2 A3 A4 A5 A6 A7 A8 A9 A10 A11 A12 A13 A14 A15:Type}(x:A0×A1×A2×A3×A4×A5×A6×A7×A8×A9×A10×A11×A12×A13×A14×A15):A14:=x.2.2.2.2.2.2.2.2.2.2.2.2.2.2.1
abbrev pf4{A0 A1 A2 A3 A4:Type}(x:A0×A1×A2×A3×A4):A4:=x.2.2.2.2
abbrev pf5{A0 A1 A2 A3 A4 A5:Type}(x:A0×A1×A2×A3×A4×A5):A5:=x.2.2.2.2.2
abbrev pf6{A0 A1 A2 A3 A4 A5 A6:Type}(x:A0×A1×A2×A3×A4×A5×A6):A6:=x.2.2.2.2.2.2
abbrev pf7{A0 A1 A2 A3 A4 A5 A6 A7:Type}(x:A0×A1×A2×A3×A4×A5×A6×A7):A7:=x.2.2.2.2.2.2.2
abbrev pf8{A0 A1 A2 A3 A4 A5 A6 A7 A8:Type}(x:A0×A1×A2×A3×A4×A5×A6×A7×A8):A8:=x.2.2.2.2.2.2.2.2
abbrev pf9{A0 A1 A2 A3 A4 A5 A6 A7 A8 A9:Type}(x:A0×A1×A2×A3×A4×A5×A6×A7×A8×A9):A9:=x.2.2.2.2.2.2.2.2.2
abbrev pf10{A0 A1 A2 A3 A4 A5 A6 A7 A8 A9 A10:Type}(x:A0×A1×A2×A3×A4×A5×A6×A7×A8×A9×A10):A10:=x.2.2.2.2.2.2.2.2.2.2
abbrev pf11{A0 A1 A2 A3 A4 A5 A6 A7 A8 A9 A10 A11:Type}(x:A0×A1×A2×A3×A4×A5×A6×A7×A8×A9×A10×A11):A11:=x.2.2.2.2.2.2.2.2.2.2.2
abbrev pf12{A0 A1 A2 A3 A4 A5 A6 A7 A8 A9 A10 A11 A12:Type}(x:A0×A1×A2×A3×A4×A5×A6×A7×A8×A9×A10×A11×A12):A12:=x.2.2.2.2.2.2.2.2.2.2.2.2
abbrev pf13{A0 A1 A2 A3 A4 A5 A6 A7 A8 A9 A10 A11 A12 A13:Type}(x:A0×A1×A2×A3×A4×A5×A6×A7×A8×A9×A10×A11×A12×A13):A13:=x.2.2.2.2.2.2.2.2.2.2.2.2.2
abbrev pf14{A0 A1 A2 A3 A4 A5 A6 A7 A8 A9 A10 A11 A12 A13 A14:Type}(x:A0×A1×A2×A3×A4×A5×A6×A7×A8×A9×A10×A11×A12×A13×A14):A14:=x.2.2.2.2.2.2.2.2.2.2.2.2.2.2
abbrev pf15{A0 A1 A2 A3 A4 A5 A6 A7 A8 A9 A10 A11 A12 A13 A14 A15:Type}(x:A0×A1×A2×A3×A4×A5×A6×A7×A8×A9×A10×A11×A12×A13×A14×A15):A15:=x.2.2.2.2.2.2.2.2.2.2.2.2.2.2.2
noncomputable section
def qrp:Shp:=⟨[(0, .d true a7.ty)],[]⟩
abbrev qww:Ctx (a7):=⟨51,tt,false,false,[],ia [],io [ar _ 51 [] q3s (C:=(ByteArray×(List ByteArray)×Int×Int×(List af)×Int×Int×Int×Int×Int)) (S:=(Int×(List af))) (fun x=>((x.1.1,(pe3 x.1),(pe4 x.1),x.2.1.1,x.2.1.2.1,x.2.1.2.2.1,(pe3 x.2.1),x.2.2.1.1,x.2.2.1.2.2.1,(pe3 x.2.2.1)),((pe5 x.1),(pe3 x)))) q3r (CE:=(ByteArray×Int×(List af)×Int×Int×Int×Int×Int)) (E:=(List af)) (fun c e=>((c.1,(),(),()),((c.2.1,c.2.2.1,(pe3 c),(pe4 c),()),((pe5 c),(),(pe6 c),(pf7 c),()),e,()))) (fun c=>(c.1,(pe3 c),(pe4 c),(pe5 c),(pe6 c),(pe7 c),(pe8 c),(pf9 c))) (fun{R} c a nx dn rt=>qol c.1 c.2.1 c.2.2.1 (pe3 c) (pe4 c) (pe5 c) (pe6 c) (pe7 c) (pe8 c) (pf9 c) a.1 a.2 nx dn rt)],ce 51 tt [] [.cell 4 24] qrp (fun x=>x.1.1)⟩
theorem qwu:CtxM Tryz.prog qww:=iu fits mixed m0
theorem q7h:ax Tryz.prog qww 0 (lc 0 Tryz.f12 75):=lp rfl qwu .z s0 (fun c a=>((c.1,(),(),c.2.1,c.2.2.1,a.1,()),(((pe3 c),(pe4 c),(pe5 c),(pe6 c),()),((pe7 c),(),(pe8 c),(pf9 c),()),a.2,()))) (fun y=>((y.1.1,y.2.1.1,y.2.1.2.1,y.2.1.2.2.1,(pe3 y.2.1),y.2.2.1.1,y.2.2.1.2.2.1,(pe3 y.2.2.1)),(pe3 y)))
abbrev qwv:Mdl:=(ay (.cons (.d false .str) (.cons (.d false (.slice .str)) .nil)) [] [] 1 qrp (B:=a7) (fun b=>((b,()),(()))) (fun a=>qpv a.1.1 a.1.2.1))
theorem q3t:MdlOK Tryz.prog 12 qwv:=iq Tryz.func12 rfl qwu (.two .z (.two .z (.two (.two .z (.s 0)) .z))) (sC q7h s0)
def qoo:Shp:=⟨[qf4],[]⟩
abbrev q7o:Ctx (Bool):=⟨17,tt,false,false,[],ia [],io [],ce 17 tt [] [.tmp 2] qoo (fun x=>x.1.1)⟩
theorem q7n:CtxM Tryz.prog q7o:=iu fits mixed m0
abbrev qii:Mdl:=(ay (.cons (.d false (.int .u8)) .nil) [] [] 1 qoo (B:=Bool) (fun b=>((b,()),(()))) (fun a=>qb1 a.1.1))
theorem qlx:MdlOK Tryz.prog 106 qii:=iq Tryz.func106 rfl q7n .z s0
def qwz:Shp:=⟨[qf4],[]⟩
abbrev jcp:Ctx (Bool):=⟨25,tt,false,false,[],ia [(106,qii)],io [],ce 25 tt [] [.tmp 2] qwz (fun x=>x.1.1)⟩
theorem jco:CtxM Tryz.prog jcp:=iu fits mixed (mC qlx m0)
abbrev q1f:Mdl:=(ay (.cons (.d false (.int .u8)) .nil) [] [] 1 qwz (B:=Bool) (fun b=>((b,()),(()))) (fun a=>qnf a.1.1))
theorem q7p:MdlOK Tryz.prog 107 q1f:=iq Tryz.func107 rfl jco .z s0
def qon:Shp:=⟨[qf4],[]⟩
abbrev qry:Ctx (Bool):=⟨29,tt,false,false,[],ia [(106,qii),(107,q1f)],io [ar _ 29 [] q1d (C:=(ByteArray×Int)) (S:=Int) (fun x=>((x.1.1,x.1.2.1),x.1.2.2.1)) q1c (CE:=Unit) (E:=Unit) (fun c e=>((()),(()))) (fun c=>()) (fun{R} c a nx dn rt=>ry c.1 c.2 a nx dn rt)],ce 29 tt [] [.tmp 2] qon (fun x=>x.1.1)⟩
theorem qrw:CtxM Tryz.prog qry:=iu fits mixed (mC qlx (mC q7p m0))
theorem q32:ax Tryz.prog qry 0 (lc 0 Tryz.f96 75):=lp rfl qrw .z s0 (fun c a=>((c.1,c.2,a,()),(()))) (fun y=>((),()))
abbrev qrx:Mdl:=(ay (.cons (.d false .str) .nil) [] [] 1 qon (B:=Bool) (fun b=>((b,()),(()))) (fun a=>qfq a.1.1))
theorem q1e:MdlOK Tryz.prog 96 qrx:=iq Tryz.func96 rfl qrw (.two .z (.two .z (.two (.two .z (.s 0)) .z))) (sC q32 s0)
def ql6:Shp:=⟨[qf4],[]⟩
abbrev qox:Ctx (Bool):=⟨36,tt,false,false,[],ia [],io [ar _ 36 [] qyk (C:=(qL1×qL1×Int×Int×(List af)×Int×Int)) (S:=Int) (fun x=>((x.1.1,x.1.2.2.1,(pe3 x.1),x.2.1.1,x.2.1.2.1,x.2.1.2.2.1,(pe3 x.2.1)),(pe4 x.1))) qyj (CE:=Unit) (E:=Unit) (fun c e=>((()),(()))) (fun c=>()) (fun{R} c a nx dn rt=>ng c.1 c.2.1 c.2.2.1 (pe3 c) (pe4 c) (pe5 c) (pf6 c) a nx dn rt)],ce 36 tt [] [.tmp 4] ql6 (fun x=>x.1.1)⟩
theorem qov:CtxM Tryz.prog qox:=iu fits mixed m0
theorem q1w:ax Tryz.prog qox 0 (lc 0 Tryz.f97 37):=lp rfl qov .z s0 (fun c a=>((c.1,(),c.2.1,c.2.2.1,a,()),(((pe3 c),(pe4 c),(pe5 c),(pf6 c),()),()))) (fun y=>((),()))
abbrev qow:Mdl:=(ay (.cons (.d false a7.ty) (.cons (.d false qT1) .nil)) [] [] 1 ql6 (B:=Bool) (fun b=>((b,()),(()))) (fun a=>lf a.1.1 a.1.2.1))
theorem qyl:MdlOK Tryz.prog 97 qow:=iq Tryz.func97 rfl qov (.two .z (.two (.two .z (.s 0)) .z)) (sC q1w s0)
def qot:Shp:=⟨[qf4],[]⟩
abbrev qr5:Ctx (Bool):=⟨62,tt,false,false,[],ia [(96,qrx),(97,qow)],io [ar _ 62 [] q1r (C:=((List af)×Int×Int×(List af)×Int×Int)) (S:=Int) (fun x=>((x.1.2.1,x.1.2.2.1,x.2.1.1,x.2.1.2.1,x.2.1.2.2.1,(pe3 x.2.1)),(pe3 x.1))) q1q (CE:=(Int×(List af)×Int×Int)) (E:=Unit) (fun c e=>(((),()),((c.1,c.2.1,c.2.2.1,c.2.2.2,()),()))) (fun c=>(c.2.2.1,(pe3 c),(pe4 c),(pf5 c))) (fun{R} c a nx dn rt=>yq c.1 c.2.1 c.2.2.1 (pe3 c) (pe4 c) (pf5 c) a nx dn rt)],ce 62 tt [] [.tmp 2] qot (fun x=>x.1.1)⟩
theorem qr4:CtxM Tryz.prog qr5:=iu fits mixed (mC q1e (mC qyl m0))
theorem q34:ax Tryz.prog qr5 0 (lc 0 Tryz.f86 75):=lp rfl qr4 .z s0 (fun c a=>(((),c.1,c.2.1,a,()),((c.2.2.1,(pe3 c),(pe4 c),(pf5 c),()),()))) (fun y=>((y.2.1.1,y.2.1.2.1,y.2.1.2.2.1,(pe3 y.2.1)),()))
abbrev yr:Mdl:=(ay (.cons (.d false a7.ty) .nil) [] [] 1 qot (B:=Bool) (fun b=>((b,()),(()))) (fun a=>r0 a.1.1))
theorem yt:MdlOK Tryz.prog 86 yr:=iq Tryz.func86 rfl qr4 (.two .z (.two .z (.two (.two .z (.s 0)) .z))) (sC q34 s0)
def zw:Shp:=⟨[q83],[]⟩
abbrev qak:Ctx (Int):=⟨19,tt,false,false,[],ia [],io [ar _ 19 [] qht (C:=(qL1×Int×Int)) (S:=Int) (fun x=>((x.1.1,x.1.2.1,x.1.2.2.1),(pe3 x.1))) qhs (CE:=Unit) (E:=Unit) (fun c e=>((()),(()))) (fun c=>()) (fun{R} c a nx dn rt=>kb c.1 c.2.1 c.2.2 a nx dn rt)],ce 19 tt [] [.tmp 4] zw (fun x=>x.1.1)⟩
theorem qai:CtxM Tryz.prog qak:=iu fits mixed m0
theorem qiz:ax Tryz.prog qak 0 (lc 0 Tryz.f98 37):=lp rfl qai .z s0 (fun c a=>((c.1,c.2.1,c.2.2,a,()),(()))) (fun y=>((),()))
abbrev qaj:Mdl:=(ay (.cons (.d false qT1) (.cons (.d false qT0) .nil)) [] [] 1 zw (B:=Int) (fun b=>((b,()),(()))) (fun a=>ss a.1.1 a.1.2.1))
theorem qhu:MdlOK Tryz.prog 98 qaj:=iq Tryz.func98 rfl qai (.two .z (.two (.two .z (.s 0)) .z)) (sC qiz s0)
def ug:Shp:=⟨[qf4],[]⟩
abbrev qgg:Ctx (Bool):=⟨9,tt,false,false,[],ia [(98,qaj)],io [],ce 9 tt [] [.tmp 4] ug (fun x=>x.1.1)⟩
theorem qgf:CtxM Tryz.prog qgg:=iu fits mixed (mC qhu m0)
abbrev vx:Mdl:=(ay (.cons (.d false qT1) (.cons (.d false qT0) .nil)) [] [] 1 ug (B:=Bool) (fun b=>((b,()),(()))) (fun a=>gu a.1.1 a.1.2.1))
theorem qe3:MdlOK Tryz.prog 87 vx:=iq Tryz.func87 rfl qgf .z s0
def qfu:Shp:=⟨[qf4],[]⟩
abbrev qvo:Ctx (Bool):=⟨8,tt,false,false,[],ia [],io [],ce 8 tt [] [.tmp 3] qfu (fun x=>x.1.1)⟩
theorem qvn:CtxM Tryz.prog qvo:=iu fits mixed m0
abbrev qg7:Mdl:=(ay (.cons (.d false qT0) (.cons (.rp false (.slice .bool)) .nil)) [] [] 1 qfu (B:=Bool) (fun b=>((b,()),(()))) (fun a=>wd a.1.1 a.1.2.1))
theorem qqe:MdlOK Tryz.prog 100 qg7:=iq Tryz.func100 rfl qvn .z s0
def o9:Shp:=⟨[q83],[]⟩
abbrev pk:Ctx (Int):=⟨19,tt,false,false,[],ia [(100,qg7)],io [ar _ 19 [] zz (C:=(qL1×(List Bool)×Int)) (S:=Int) (fun x=>((x.1.1,x.1.2.1.1,x.1.2.2.1),(pe3 x.1))) zy (CE:=Unit) (E:=Unit) (fun c e=>((()),(()))) (fun c=>()) (fun{R} c a nx dn rt=>ez c.1 c.2.1 c.2.2 a nx dn rt)],ce 19 tt [] [.tmp 4] o9 (fun x=>x.1.1)⟩
theorem pi:CtxM Tryz.prog pk:=iu fits mixed (mC qqe m0)
theorem qa3:ax Tryz.prog pk 0 (lc 0 Tryz.f108 37):=lp rfl pi .z s0 (fun c a=>((c.1,(c.2.1,()),c.2.2,a,()),(()))) (fun y=>((),()))
abbrev pj:Mdl:=(ay (.cons (.d false qT1) (.cons (.fn 100 (.cons (.rp false (.slice .bool)) .nil)) .nil)) [] [] 1 o9 (B:=Int) (fun b=>((b,()),(()))) (fun a=>kh a.1.1 a.1.2.1.1))
theorem z6:MdlOK Tryz.prog 108 pj:=iq Tryz.func108 rfl pi (.two .z (.two (.two .z (.s 0)) .z)) (sC qa3 s0)
def mz:Shp:=⟨[qf4],[]⟩
abbrev zl:Ctx (Bool):=⟨9,tt,false,false,[],ia [(108,pj)],io [],ce 9 tt [] [.tmp 4] mz (fun x=>x.1.1)⟩
theorem zk:CtxM Tryz.prog zl:=iu fits mixed (mC z6 m0)
abbrev nr:Mdl:=(ay (.cons (.d false qT1) (.cons (.fn 100 (.cons (.rp false (.slice .bool)) .nil)) .nil)) [] [] 1 mz (B:=Bool) (fun b=>((b,()),(()))) (fun a=>df a.1.1 a.1.2.1.1))
theorem w9:MdlOK Tryz.prog 99 nr:=iq Tryz.func99 rfl zk .z s0
def qju:Shp:=⟨[jw1,(1, .own 1)],[q3h,q3h]⟩
abbrev yw:Ctx (((List Bool)×(List Bool))):=⟨69,tt,false,false,[],ia [(99,nr)],io [ar _ 69 [] qvi (C:=(Bool×Bool×(List af)×Int×Int×qL1×Int×Int×(List af)×Int×Int×(List Bool))) (S:=(Int×(List Bool))) (fun x=>((x.1.1,(pe4 x.1),(pe5 x.1),(pe6 x.1),(pe7 x.1),(pe8 x.1),(pe9 x.1),x.2.1.1,x.2.1.2.1,x.2.1.2.2.1,(pe3 x.2.1),(pe3 x)),((pe10 x.1),(pe4 x)))) qvh (CE:=(Bool×Bool×(List af)×Int×Int×Int×(List af)×Int×Int×(List Bool))) (E:=(List Bool)) (fun c e=>((c.1,(),(),(),c.2.1,c.2.2.1,(pe3 c),(pe4 c),()),(((pe5 c),(pe6 c),(pe7 c),(pe8 c),()),((),()),(pf9 c),e,()))) (fun c=>(c.1,c.2.1,c.2.2.1,(pe3 c),(pe4 c),(pe7 c),(pe8 c),(pe9 c),(pe10 c),(pf11 c))) (fun{R} c a nx dn rt=>tm c.1 c.2.1 c.2.2.1 (pe3 c) (pe4 c) (pe5 c) (pe6 c) (pe7 c) (pe8 c) (pe9 c) (pe10 c) (pf11 c) a.1 a.2 nx dn rt),ar _ 69 [] qvk (C:=(Bool×(List af)×Int×Int×(List af)×Int×Int)) (S:=(Bool×Int×(List Bool)×(List Bool))) (fun x=>((x.1.1,(pe5 x.1),(pe6 x.1),x.2.1.1,x.2.1.2.1,x.2.1.2.2.1,(pe3 x.2.1)),((pe4 x.1),(pe7 x.1),(pe3 x),(pe4 x)))) qvj (CE:=(Bool×Int×(List af)×Int×Int)) (E:=(Bool×(List Bool)×(List Bool))) (fun c e=>((c.1,(),(),(),e.1,()),((c.2.1,c.2.2.1,(pe3 c),(pf4 c),()),((),()),e.2.1,e.2.2,()))) (fun c=>(c.1,(pe3 c),(pe4 c),(pe5 c),(pf6 c))) (fun{R} c a nx dn rt=>gn c.1 c.2.1 c.2.2.1 (pe3 c) (pe4 c) (pe5 c) (pf6 c) a.1 a.2.1 a.2.2.1 a.2.2.2 nx dn rt),ar _ 69 [] qvm (C:=(Bool×Int×(List af)×Int×Int)) (S:=(Bool×(List Bool)×(List Bool))) (fun x=>((x.1.1,x.2.1.1,x.2.1.2.1,x.2.1.2.2.1,(pe3 x.2.1)),((pe4 x.1),(pe3 x),(pe4 x)))) qvl (CE:=Unit) (E:=((List Bool)×(List Bool))) (fun c e=>(((),(),()),(((),()),e.1,e.2,()))) (fun c=>()) (fun{R} c a nx dn rt=>qax c.1 c.2.1 c.2.2.1 (pe3 c) (pf4 c) a.1 a.2.1 a.2.2 nx dn rt)],ce 69 tt [] [.tmp 6, .tmp 7] qju (fun x=>(x.2.1,x.2.2.1))⟩
theorem yv:CtxM Tryz.prog yw:=iu fits mixed (mC w9 m0)
theorem qym:ax Tryz.prog yw 0 (lc 4 Tryz.f88 41838231):=lp rfl yv .z s0 (fun c a=>((c.1,(),(),(),c.2.1,c.2.2.1,(pe3 c),(pe4 c),(pe5 c),(pe6 c),a.1,()),(((pe7 c),(pe8 c),(pe9 c),(pe10 c),()),((),()),(pf11 c),a.2,()))) (fun y=>((y.1.1,(pe4 y.1),(pe5 y.1),(pe6 y.1),(pe7 y.1),y.2.1.1,y.2.1.2.1,y.2.1.2.2.1,(pe3 y.2.1),(pe3 y)),(pe4 y)))
theorem qyn:ax Tryz.prog yw 1 (lc 2 Tryz.f88 9879):=lp rfl yv (.two .z (.two .z (.two (.one (.two .z (.two (.d [0,1,0,4,3,31] [] []) (.two .z (.two .z (.two .z (.two .z (.s 0)))))))) .z))) (sC qym s0) (fun c a=>((c.1,(),(),(),a.1,c.2.1,c.2.2.1,a.2.1,()),(((pe3 c),(pe4 c),(pe5 c),(pf6 c),()),((),()),a.2.2.1,a.2.2.2,()))) (fun y=>((y.1.1,y.2.1.1,y.2.1.2.1,y.2.1.2.2.1,(pe3 y.2.1)),((pe4 y.1),(pe3 y),(pe4 y))))
theorem qyo:ax Tryz.prog yw 2 (lc 0 Tryz.f88 151):=lp rfl yv (.two .z (.one (.two .z (.two .z (.s 1))))) (sC qyn s0) (fun c a=>((c.1,(),(),(),a.1,()),((c.2.1,c.2.2.1,(pe3 c),(pf4 c),()),((),()),a.2.1,a.2.2,()))) (fun y=>((),(y.2.2.1,(pe3 y))))
abbrev ql7:Mdl:=(ay (.cons (.d false a7.ty) (.cons (.d false qT0) (.cons (.d false .bool) .nil))) [] [] 2 qju (B:=((List Bool)×(List Bool))) (fun b=>(((),(),()),(b.1,b.2,()))) (fun a=>oc a.1.1 a.1.2.1 a.1.2.2.1))
theorem qvp:MdlOK Tryz.prog 88 ql7:=iq Tryz.func88 rfl yv (.two .z (.two (.d [0,1,3,0,8,24,56,0,135,511] [8] []) (.two .z (.two (.two .z (.s 2)) .z)))) (sC qyo s0)
def vz:Shp:=⟨[q83],[]⟩
abbrev x3:Ctx (Int):=⟨19,tt,false,false,[],ia [],io [ar _ 19 [] qfc (C:=((List Bool)×Bool×Int)) (S:=Int) (fun x=>((x.1.1,x.1.2.1,x.1.2.2.1),(pe3 x.1))) qfb (CE:=Unit) (E:=Unit) (fun c e=>((()),(()))) (fun c=>()) (fun{R} c a nx dn rt=>i9 c.1 c.2.1 c.2.2 a nx dn rt)],ce 19 tt [] [.tmp 4] vz (fun x=>x.1.1)⟩
theorem xy:CtxM Tryz.prog x3:=iu fits mixed m0
theorem qgh:ax Tryz.prog x3 0 (lc 0 Tryz.f101 37):=lp rfl xy .z s0 (fun c a=>((c.1,c.2.1,c.2.2,a,()),(()))) (fun y=>((),()))
abbrev xz:Mdl:=(ay (.cons (.d false (.slice .bool)) (.cons (.d false .bool) .nil)) [] [] 1 vz (B:=Int) (fun b=>((b,()),(()))) (fun a=>qf a.1.1 a.1.2.1))
theorem qfd:MdlOK Tryz.prog 101 xz:=iq Tryz.func101 rfl xy (.two .z (.two (.two .z (.s 0)) .z)) (sC qgh s0)
def rl:Shp:=⟨[qf4],[]⟩
abbrev qe2:Ctx (Bool):=⟨9,tt,false,false,[],ia [(101,xz)],io [],ce 9 tt [] [.tmp 4] rl (fun x=>x.1.1)⟩
theorem qe1:CtxM Tryz.prog qe2:=iu fits mixed (mC qfd m0)
abbrev sm:Mdl:=(ay (.cons (.d false (.slice .bool)) (.cons (.d false .bool) .nil)) [] [] 1 rl (B:=Bool) (fun b=>((b,()),(()))) (fun a=>cu a.1.1 a.1.2.1))
theorem qcu:MdlOK Tryz.prog 89 sm:=iq Tryz.func89 rfl qe1 .z s0
def qg2:Shp:=⟨[qf4],[]⟩
abbrev qck:Ctx (Bool):=⟨65,tt,false,false,[],ia [(86,yr),(87,vx),(88,ql7),(89,sm)],io [ar _ 65 [] qr9 (C:=((List af)×Int×Int×(List af)×Int×Int)) (S:=Int) (fun x=>((x.1.2.1,x.1.2.2.1,x.2.1.1,x.2.1.2.1,x.2.1.2.2.1,(pe3 x.2.1)),(pe3 x.1))) qr8 (CE:=(Int×(List af)×Int×Int)) (E:=Unit) (fun c e=>(((),()),((c.1,c.2.1,c.2.2.1,c.2.2.2,()),()))) (fun c=>(c.2.2.1,(pe3 c),(pe4 c),(pf5 c))) (fun{R} c a nx dn rt=>rf c.1 c.2.1 c.2.2.1 (pe3 c) (pe4 c) (pf5 c) a nx dn rt),ar _ 65 [] qsb (C:=((List Bool)×Int×Int×(List af)×Int×Int)) (S:=Int) (fun x=>((x.1.2.1,x.1.2.2.1,x.2.1.1,x.2.1.2.1,x.2.1.2.2.1,(pe3 x.2.1)),(pe3 x.1))) qsa (CE:=Unit) (E:=Unit) (fun c e=>((()),(()))) (fun c=>()) (fun{R} c a nx dn rt=>rg c.1 c.2.1 c.2.2.1 (pe3 c) (pe4 c) (pf5 c) a nx dn rt)],ce 65 tt [] [.tmp 2] qg2 (fun x=>x.1.1)⟩
theorem qcj:CtxM Tryz.prog qck:=iu fits mixed (mC yt (mC qe3 (mC qvp (mC qcu m0))))
theorem qvc:ax Tryz.prog qck 1 (lc 2 Tryz.f62 151):=lp rfl qcj .z s0 (fun c a=>(((),c.1,c.2.1,a,()),((c.2.2.1,(pe3 c),(pe4 c),(pf5 c),()),()))) (fun y=>((),()))
theorem qvb:ax Tryz.prog qck 0 (lc 0 Tryz.f62 75):=lp rfl qcj .z s0 (fun c a=>(((),c.1,c.2.1,a,()),((c.2.2.1,(pe3 c),(pe4 c),(pf5 c),()),()))) (fun y=>((y.2.1.1,y.2.1.2.1,y.2.1.2.2.1,(pe3 y.2.1)),()))
abbrev qjq:Mdl:=(ay (.cons (.d false a7.ty) .nil) [] [] 1 qg2 (B:=Bool) (fun b=>((b,()),(()))) (fun a=>ea a.1.1))
theorem qsc:MdlOK Tryz.prog 62 qjq:=iq Tryz.func62 rfl qcj (.two .z (.two .z (.two (.two .z (.s 0)) (.two (.two .z (.s 1)) .z)))) (sC qvb (sC qvc s0))
def qlh:Shp:=⟨[q83],[]⟩
abbrev q3y:Ctx (Int):=⟨13,tt,false,false,[],ia [(62,qjq)],io [],ce 13 tt [] [.tmp 4] qlh (fun x=>x.1.1)⟩
theorem q3x:CtxM Tryz.prog q3y:=iu fits mixed (mC qsc m0)
abbrev qgb:Mdl:=(ay (.cons (.d false a7.ty) (.cons (.d false a7.ty) .nil)) [] [] 1 qlh (B:=Int) (fun b=>((b,()),(()))) (fun a=>yk a.1.1 a.1.2.1))
theorem qje:MdlOK Tryz.prog 27 qgb:=iq Tryz.func27 rfl q3x .z s0
def qw8:Shp:=⟨[jw1,jgt],[qqy]⟩
abbrev jcy:Ctx ((Int×qL1)):=⟨17,tt,false,false,[],ia [(86,yr)],io [],ce 17 tt [] [.tmp 4, .tmp 5] qw8 (fun x=>(x.1.2.1,x.2.1))⟩
theorem jcx:CtxM Tryz.prog jcy:=iu fits mixed (mC yt m0)
abbrev qqd:Mdl:=(ay (.cons (.d false a7.ty) (.cons (.d false qT0) .nil)) [] [] 2 qw8 (B:=(Int×qL1)) (fun b=>(((),b.1,()),(b.2,()))) (fun a=>qg6 a.1.1 a.1.2.1))
theorem qsg:MdlOK Tryz.prog 76 qqd:=iq Tryz.func76 rfl jcx .z s0
def qjp:Shp:=⟨[j0b,jgt],[]⟩
abbrev q1m:Ctx ((qL1×Int)):=⟨10,tt,false,false,[],ia [(76,qqd)],io [],ce 10 tt [] [.tmp 2, .tmp 3] qjp (fun x=>(x.1.1,x.1.2.1))⟩
theorem q1l:CtxM Tryz.prog q1m:=iu fits mixed (mC qsg m0)
abbrev qeq:Mdl:=(ay (.cons (.d false a7.ty) .nil) [] [] 2 qjp (B:=(qL1×Int)) (fun b=>((b.1,b.2,()),(()))) (fun a=>u9 a.1.1))
theorem qgz:MdlOK Tryz.prog 43 qeq:=iq Tryz.func43 rfl q1l .z s0
def qft:Shp:=⟨[qf4],[]⟩
abbrev qvg:Ctx (Bool):=⟨9,tt,false,false,[],ia [],io [],ce 9 tt [] [.tmp 2] qft (fun x=>x.1.1)⟩
theorem qvf:CtxM Tryz.prog qvg:=iu fits mixed m0
abbrev qg5:Mdl:=(ay (.cons (.d false qT0) .nil) [] [] 1 qft (B:=Bool) (fun b=>((b,()),(()))) (fun a=>qcm a.1.1))
theorem qqc:MdlOK Tryz.prog 102 qg5:=iq Tryz.func102 rfl qvf .z s0
def pc:Shp:=⟨[q83],[]⟩
abbrev pp:Ctx (Int):=⟨19,tt,false,false,[],ia [(102,qg5)],io [ar _ 19 [] z8 (C:=(qL1×Int)) (S:=Int) (fun x=>((x.1.1,x.1.2.2.1),(pe3 x.1))) z7 (CE:=Unit) (E:=Unit) (fun c e=>((()),(()))) (fun c=>()) (fun{R} c a nx dn rt=>fa c.1 c.2 a nx dn rt)],ce 19 tt [] [.tmp 4] pc (fun x=>x.1.1)⟩
theorem pn:CtxM Tryz.prog pp:=iu fits mixed (mC qqc m0)
theorem qa4:ax Tryz.prog pp 0 (lc 0 Tryz.f108 37):=lp rfl pn .z s0 (fun c a=>((c.1,(()),c.2,a,()),(()))) (fun y=>((),()))
abbrev po:Mdl:=(ay (.cons (.d false qT1) (.cons (.fn 102 .nil) .nil)) [] [] 1 pc (B:=Int) (fun b=>((b,()),(()))) (fun a=>kj a.1.1))
theorem qaa:MdlOK Tryz.prog 108 po:=iq Tryz.func108 rfl pn (.two .z (.two (.two .z (.s 0)) .z)) (sC qa4 s0)
def m3:Shp:=⟨[qf4],[]⟩
abbrev zn:Ctx (Bool):=⟨9,tt,false,false,[],ia [(108,po)],io [],ce 9 tt [] [.tmp 4] m3 (fun x=>x.1.1)⟩
theorem zm:CtxM Tryz.prog zn:=iu fits mixed (mC qaa m0)
abbrev ns:Mdl:=(ay (.cons (.d false qT1) (.cons (.fn 102 .nil) .nil)) [] [] 1 m3 (B:=Bool) (fun b=>((b,()),(()))) (fun a=>ey a.1.1))
theorem xa:MdlOK Tryz.prog 99 ns:=iq Tryz.func99 rfl zm .z s0
def qjs:Shp:=⟨[qf4],[]⟩
abbrev q1v:Ctx (Bool):=⟨19,tt,false,false,[],ia [(86,yr),(99,ns)],io [],ce 19 tt [] [.tmp 4] qjs (fun x=>x.1.1)⟩
theorem q1u:CtxM Tryz.prog q1v:=iu fits mixed (mC yt (mC xa m0))
abbrev yu:Mdl:=(ay (.cons (.d false a7.ty) (.cons (.d false qT1) .nil)) [] [] 1 qjs (B:=Bool) (fun b=>((b,()),(()))) (fun a=>lw a.1.1 a.1.2.1))
theorem qaw:MdlOK Tryz.prog 90 yu:=iq Tryz.func90 rfl q1u .z s0
def vg:Shp:=⟨[jw1],[qqy]⟩
abbrev qhm:Ctx (qL1):=⟨8,tt,false,false,[],ia [],io [],ce 8 tt [] [.tmp 2] vg (fun x=>x.2.1)⟩
theorem qhk:CtxM Tryz.prog qhm:=iu fits mixed m0
abbrev qhl:Mdl:=(ay (.cons (.nl false (.d false qT1)) .nil) [] [] 1 vg (B:=qL1) (fun b=>(((),()),(b,()))) (fun a=>zj a.1.1))
theorem qe9:MdlOK Tryz.prog 24 qhl:=iq Tryz.func24 rfl qhk .z s0
def oh:Shp:=⟨[jw1],[qqy]⟩
abbrev qhp:Ctx (qL1):=⟨8,tt,false,false,[],ia [],io [],ce 8 tt [] [.tmp 2] oh (fun x=>x.2.1)⟩
theorem qhn:CtxM Tryz.prog qhp:=iu fits mixed m0
abbrev qho:Mdl:=(ay (.cons (.nl true (.d false qT1)) .nil) [] [] 1 oh (B:=qL1) (fun b=>(((),()),(b,()))) (fun a=>lh a.1.1))
theorem qfa:MdlOK Tryz.prog 24 qho:=iq Tryz.func24 rfl qhn .z s0
abbrev je:Mdl:=(ay (.cons (.d false qT1) .nil) [] [] 1 oh (fun(b:qL1)=>(((),()),(b,()))) (fun(a:((qL1×Unit)×(Unit)))=>cm a.1.1))
theorem j7:MdlOK Tryz.prog 24 je:=by
 refine jf6 (jk2 _ _) qe9 qfa (by kernel_rfl) (fun a b h=>⟨?_,h⟩);obtain⟨⟨xs,u1⟩,u2⟩:=a;cases xs with
 |nil=>exact h
 |cons x l=>
  have e:decide ((((x::l).length:Nat):Int)=0)=false:=decide_eq_false (by simp only[List.length_cons];omega);simp only[cm,lh]at h;simp only[zj,e,cond_false];exact h
def qfs:Shp:=⟨[qf4],[]⟩
abbrev qve:Ctx (Bool):=⟨9,tt,false,false,[],ia [],io [],ce 9 tt [] [.tmp 3] qfs (fun x=>x.1.1)⟩
theorem qvd:CtxM Tryz.prog qve:=iu fits mixed m0
abbrev qg3:Mdl:=(ay (.cons (.d false qT0) (.cons (.rp false qT1) .nil)) [] [] 1 qfs (B:=Bool) (fun b=>((b,()),(()))) (fun a=>qcl a.1.1 a.1.2.1))
theorem qqb:MdlOK Tryz.prog 105 qg3:=iq Tryz.func105 rfl qvd .z s0
def pe:Shp:=⟨[q83],[]⟩
abbrev pt:Ctx (Int):=⟨19,tt,false,false,[],ia [(105,qg3)],io [ar _ 19 [] qac (C:=(qL1×qL1×Int)) (S:=Int) (fun x=>((x.1.1,x.1.2.1.1,x.1.2.2.1),(pe3 x.1))) qab (CE:=Unit) (E:=Unit) (fun c e=>((()),(()))) (fun c=>()) (fun{R} c a nx dn rt=>fb c.1 c.2.1 c.2.2 a nx dn rt)],ce 19 tt [] [.tmp 4] pe (fun x=>x.1.1)⟩
theorem pq:CtxM Tryz.prog pt:=iu fits mixed (mC qqb m0)
theorem qa5:ax Tryz.prog pt 0 (lc 0 Tryz.f108 37):=lp rfl pq .z s0 (fun c a=>((c.1,(c.2.1,()),c.2.2,a,()),(()))) (fun y=>((),()))
abbrev pr:Mdl:=(ay (.cons (.d false qT1) (.cons (.fn 105 (.cons (.rp false qT1) .nil)) .nil)) [] [] 1 pe (B:=Int) (fun b=>((b,()),(()))) (fun a=>kl a.1.1 a.1.2.1.1))
theorem qad:MdlOK Tryz.prog 108 pr:=iq Tryz.func108 rfl pq (.two .z (.two (.two .z (.s 0)) .z)) (sC qa5 s0)
def m4:Shp:=⟨[qf4],[]⟩
abbrev zp:Ctx (Bool):=⟨9,tt,false,false,[],ia [(108,pr)],io [],ce 9 tt [] [.tmp 4] m4 (fun x=>x.1.1)⟩
theorem zo:CtxM Tryz.prog zp:=iu fits mixed (mC qad m0)
abbrev nt:Mdl:=(ay (.cons (.d false qT1) (.cons (.fn 105 (.cons (.rp false qT1) .nil)) .nil)) [] [] 1 m4 (B:=Bool) (fun b=>((b,()),(()))) (fun a=>i3 a.1.1 a.1.2.1.1))
theorem xc:MdlOK Tryz.prog 99 nt:=iq Tryz.func99 rfl zo .z s0
def qjr:Shp:=⟨[qf4],[]⟩
abbrev q1t:Ctx (Bool):=⟨10,tt,false,false,[],ia [(99,nt)],io [],ce 10 tt [] [.tmp 4] qjr (fun x=>x.1.1)⟩
theorem q1s:CtxM Tryz.prog q1t:=iu fits mixed (mC xc m0)
abbrev qer:Mdl:=(ay (.cons (.d false af.ty) (.cons (.d false qT1) .nil)) [] [] 1 qjr (B:=Bool) (fun b=>((b,()),(()))) (fun a=>vb a.1.1 a.1.2.1))
theorem qg4:MdlOK Tryz.prog 93 qer:=iq Tryz.func93 rfl q1s .z s0
def qcb:Shp:=⟨[q83],[]⟩
abbrev qc8:Ctx (Int):=⟨25,tt,false,false,[],ia [],io [ar _ 25 [] qkt (C:=qL1) (S:=(Int×Int)) (fun x=>(x.1.1,(x.1.2.1,x.1.2.2.1))) qks (CE:=Unit) (E:=Int) (fun c e=>((e,()),(()))) (fun c=>()) (fun{R} c a nx dn rt=>mr c a.1 a.2 nx dn rt)],ce 25 tt [] [.tmp 2] qcb (fun x=>x.1.1)⟩
theorem qc6:CtxM Tryz.prog qc8:=iu fits mixed m0
theorem qm2:ax Tryz.prog qc8 0 (lc 0 Tryz.f103 151):=lp rfl qc6 .z s0 (fun c a=>((c,a.1,a.2,()),(()))) (fun y=>((),y.1.1))
abbrev qc7:Mdl:=(ay (.cons (.d false qT1) .nil) [] [] 1 qcb (B:=Int) (fun b=>((b,()),(()))) (fun a=>qg a.1.1))
theorem qku:MdlOK Tryz.prog 103 qc7:=iq Tryz.func103 rfl qc6 (.two .z (.two .z (.two .z (.two (.two .z (.s 0)) .z)))) (sC qm2 s0)
def qsf:Shp:=⟨[jw1,jgt],[qqy]⟩
abbrev ql4:Ctx ((Int×qL1)):=⟨66,tt,false,false,[],ia [(93,qer),(24,je),(103,qc7)],io [ar _ 66 [] q39 (C:=(qL1×Int×ByteArray×qL1×qL1)) (S:=(Int×qL1)) (fun x=>((x.1.2.2.1,(pe3 x.1),x.2.1.1,x.2.1.2.1,x.2.1.2.2.1),((pe4 x.1),x.2.2.1))) q38 (CE:=(ByteArray×qL1×qL1)) (E:=qL1) (fun c e=>(((),(),()),((c.1,c.2.1,c.2.2,()),e,()))) (fun c=>(c.2.2.1,(pe3 c),(pf4 c))) (fun{R} c a nx dn rt=>qbe c.1 c.2.1 c.2.2.1 (pe3 c) (pf4 c) a.1 a.2 nx dn rt),ar _ 66 [] q4b (C:=(qL1×Int)) (S:=(Int×qL1)) (fun x=>((x.1.2.1,x.1.2.2.1),((pe3 x.1),x.2.1))) q4a (CE:=Unit) (E:=qL1) (fun c e=>(((),()),(e,()))) (fun c=>()) (fun{R} c a nx dn rt=>qbf c.1 c.2 a.1 a.2 nx dn rt)],ce 66 tt [] [.tmp 6, .tmp 7] qsf (fun x=>(x.1.2.1,x.2.1))⟩
theorem ql2:CtxM Tryz.prog ql4:=iu fits mixed (mC qg4 (mC j7 (mC qku m0)))
theorem q72:ax Tryz.prog ql4 1 (lc 2 Tryz.f91 1215):=lp rfl ql2 .z s0 (fun c a=>(((),c.1,c.2,a.1,()),(a.2,()))) (fun y=>((),y.2.1))
theorem q71:ax Tryz.prog ql4 0 (lc 0 Tryz.f91 607):=lp rfl ql2 .z s0 (fun c a=>(((),(),c.1,c.2.1,a.1,()),((c.2.2.1,(pe3 c),(pf4 c),()),a.2,()))) (fun y=>((y.2.1.1,y.2.1.2.1,y.2.1.2.2.1),y.2.2.1))
abbrev ql3:Mdl:=(ay (.cons (.d false a7.ty) (.cons (.d false qT1) (.cons (.d false qT0) .nil))) [] [] 2 qsf (B:=(Int×qL1)) (fun b=>(((),b.1,()),(b.2,()))) (fun a=>oa a.1.1 a.1.2.1 a.1.2.2.1))
theorem qou:MdlOK Tryz.prog 91 ql3:=iq Tryz.func91 rfl ql2 (.two .z (.two .z (.two .z (.two .z (.two .z (.two (.two .z (.s 0)) (.two (.two .z (.s 1)) .z))))))) (sC q71 (sC q72 s0))
def qw4:Shp:=⟨[j0b,jgt,qx1],[]⟩
abbrev q1p:Ctx ((qL1×Int×Int)):=⟨48,tt,false,false,[],ia [(90,yu),(24,je),(91,ql3)],io [ar _ 48 [] q7y (C:=(qL1×qL1×Int×Int×(List af)×Int×Int)) (S:=(qL1×Int)) (fun x=>((x.1.1,(pe3 x.1),(pe4 x.1),x.2.1.1,x.2.1.2.1,x.2.1.2.2.1,(pe3 x.2.1)),(x.1.2.2.1,(pe5 x.1)))) q7x (CE:=qL1) (E:=qL1) (fun c e=>((c,e,()),(()))) (fun c=>c.1) (fun{R} c a nx dn rt=>yp c.1 c.2.1 c.2.2.1 (pe3 c) (pe4 c) (pe5 c) (pf6 c) a.1 a.2 nx dn rt)],ce 48 tt [] [.tmp 6, .tmp 7, .tmp 8] qw4 (fun x=>(x.1.1,x.1.2.1,x.1.2.2.1))⟩
theorem q1n:CtxM Tryz.prog q1p:=iu fits mixed (mC qaw (mC j7 (mC qou m0)))
theorem jaz:ax Tryz.prog q1p 0 (lc 1 Tryz.f65 151):=lp rfl q1n .z s0 (fun c a=>((c.1,(),a.1,c.2.1,c.2.2.1,a.2,()),(((pe3 c),(pe4 c),(pe5 c),(pf6 c),()),()))) (fun y=>(y.1.1,y.1.2.1))
abbrev q1o:Mdl:=(ay (.cons (.d false a7.ty) (.cons (.d false qT1) (.cons (.d false qT1) .nil))) [] [] 3 qw4 (B:=(qL1×Int×Int)) (fun b=>((b.1,b.2.1,b.2.2,()),(()))) (fun a=>qnh a.1.1 a.1.2.1 a.1.2.2.1))
theorem q7z:MdlOK Tryz.prog 65 q1o:=iq Tryz.func65 rfl q1n (.two .z (.two .z (.two .z (.two (.two .z (.s 0)) .z)))) (sC jaz s0)
def qr7:Shp:=⟨[jz5,jgt],[jgs]⟩
abbrev qw7:Ctx ((Int×(List ByteArray))):=⟨47,tt,false,false,[],ia [(86,yr)],io [ar _ 47 [] q36 (C:=(qL1×Int×Int×(List af)×Int×Int)) (S:=(Int×(List ByteArray))) (fun x=>((x.1.2.2.1,(pe3 x.1),x.2.1.1,x.2.1.2.1,x.2.1.2.2.1,(pe3 x.2.1)),((pe4 x.1),x.2.2.1))) q35 (CE:=Unit) (E:=(List ByteArray)) (fun c e=>(((),()),(e,()))) (fun c=>()) (fun{R} c a nx dn rt=>qbd c.1 c.2.1 c.2.2.1 (pe3 c) (pe4 c) (pf5 c) a.1 a.2 nx dn rt)],ce 47 tt [] [.tmp 4, .tmp 5] qr7 (fun x=>(x.1.2.1,x.2.1))⟩
theorem qw5:CtxM Tryz.prog qw7:=iu fits mixed (mC yt m0)
theorem q70:ax Tryz.prog qw7 0 (lc 1 Tryz.f66 151):=lp rfl qw5 .z s0 (fun c a=>(((),(),c.1,c.2.1,a.1,()),((c.2.2.1,(pe3 c),(pe4 c),(pf5 c),()),a.2,()))) (fun y=>((),y.2.1))
abbrev qw6:Mdl:=(ay (.cons (.d false a7.ty) (.cons (.d false qT1) .nil)) [] [] 2 qr7 (B:=(Int×(List ByteArray))) (fun b=>(((),b.1,()),(b.2,()))) (fun a=>qik a.1.1 a.1.2.1))
theorem q37:MdlOK Tryz.prog 66 qw6:=iq Tryz.func66 rfl qw5 (.two .z (.two .z (.two .z (.two (.two .z (.s 0)) .z)))) (sC q70 s0)
def qfk:Shp:=⟨[j0b,j0y,jxb],[jgs]⟩
abbrev qun:Ctx ((qL1×Bool×(List ByteArray))):=⟨37,tt,false,false,[],ia [(43,qeq),(65,q1o),(66,qw6)],io [],ce 37 tt [] [.tmp 4, .tmp 5, .tmp 6] qfk (fun x=>(x.1.1,x.1.2.2.1,x.2.1))⟩
theorem qum:CtxM Tryz.prog qun:=iu fits mixed (mC qgz (mC q7z (mC q37 m0)))
abbrev qas:Mdl:=(ay (.cons (.d false a7.ty) (.cons (.d false qT1) .nil)) [] [] 3 qfk (B:=(qL1×Bool×(List ByteArray))) (fun b=>((b.1,(),b.2.1,()),(b.2.2,()))) (fun a=>ne a.1.1 a.1.2.1))
theorem qee:MdlOK Tryz.prog 29 qas:=iq Tryz.func29 rfl qum .z s0
def qjd:Shp:=⟨[j0b,j0y,qx1],[jgs]⟩
abbrev q06:Ctx ((qL1×Int×(List ByteArray))):=⟨40,tt,false,false,[],ia [(27,qgb),(29,qas)],io [],ce 40 tt [] [.tmp 8, .tmp 9, .tmp 10] qjd (fun x=>(x.1.1,x.1.2.2.1,x.2.1))⟩
theorem q05:CtxM Tryz.prog q06:=iu fits mixed (mC qje (mC qee m0))
abbrev qlg:Mdl:=(ay (.cons (.d false a7.ty) (.cons (.d false a7.ty) (.cons (.d false qT1) (.cons (.d false qT0) .nil)))) [] [] 3 qjd (B:=(qL1×Int×(List ByteArray))) (fun b=>((b.1,(),b.2.1,()),(b.2.2,()))) (fun a=>n9 a.1.1 a.1.2.1 a.1.2.2.1 (pe3 a.1)))
theorem qul:MdlOK Tryz.prog 15 qlg:=iq Tryz.func15 rfl q05 .z s0
def q3w:Shp:=⟨[j0g],[]⟩
abbrev qde:Mdl:=(ay (.cons (.d false qT1) .nil) [] [] 1 q3w (B:=ByteArray) (fun b=>((b,()),(()))) (fun a=>ir a.1.1))
theorem qej:MdlOK Tryz.prog 44 qde:=jkl _
def qr3:Shp:=⟨[jw1,jgt],[qqy]⟩
abbrev jay:Ctx ((Int×qL1)):=⟨18,tt,false,false,[],ia [(90,yu),(91,ql3)],io [],ce 18 tt [] [.tmp 6, .tmp 7] qr3 (fun x=>(x.1.2.1,x.2.1))⟩
theorem jax:CtxM Tryz.prog jay:=iu fits mixed (mC qaw (mC qou m0))
abbrev qw2:Mdl:=(ay (.cons (.d false a7.ty) (.cons (.d false qT1) (.cons (.d false qT0) .nil))) [] [] 2 qr3 (B:=(Int×qL1)) (fun b=>(((),b.1,()),(b.2,()))) (fun a=>qav a.1.1 a.1.2.1 a.1.2.2.1))
theorem q33:MdlOK Tryz.prog 79 qw2:=iq Tryz.func79 rfl jax .z s0
def qjk:Shp:=⟨[jz5],[jxa]⟩
abbrev qlv:Ctx ((List ag)):=⟨32,tt,false,false,[],ia [(79,qw2)],io [ar _ 32 [] qu1 (C:=(qL1×Int×Int×(List af)×Int×Int)) (S:=(Int×(List ag))) (fun x=>((x.1.1,(pe3 x.1),x.2.1.1,x.2.1.2.1,x.2.1.2.2.1,(pe3 x.2.1)),((pe4 x.1),x.2.2.1))) qu0 (CE:=Unit) (E:=(List ag)) (fun c e=>(((),()),(e,()))) (fun c=>()) (fun{R} c a nx dn rt=>td c.1 c.2.1 c.2.2.1 (pe3 c) (pe4 c) (pf5 c) a.1 a.2 nx dn rt)],ce 32 tt [] [.tmp 4] qjk (fun x=>x.2.1)⟩
theorem qlu:CtxM Tryz.prog qlv:=iu fits mixed (mC q33 m0)
theorem qyh:ax Tryz.prog qlv 0 (lc 0 Tryz.f45 75):=lp rfl qlu .z s0 (fun c a=>((c.1,(),(),c.2.1,a.1,()),((c.2.2.1,(pe3 c),(pe4 c),(pf5 c),()),a.2,()))) (fun y=>((),y.2.1))
abbrev rx:Mdl:=(ay (.cons (.d false a7.ty) (.cons (.d false qT1) .nil)) [] [] 1 qjk (B:=(List ag)) (fun b=>(((),()),(b,()))) (fun a=>da a.1.1 a.1.2.1))
theorem te:MdlOK Tryz.prog 45 rx:=iq Tryz.func45 rfl qlu (.two .z (.two .z (.two (.two .z (.s 0)) .z))) (sC qyh s0)
def qc1:Shp:=⟨[jw1,j0c],[q0i]⟩
abbrev wx:Ctx ((Bool×(List ae))):=⟨109,tt,false,true,[],ia [(43,qeq),(44,qde),(45,rx),(24,je)],io [ar _ 109 [] qlk (C:=((List ByteArray)×Int×Int×(List ag)×Int×Int×(List af)×Int×Int×Int×qL1×qL1)) (S:=(Int×(List ae)×(List (ByteArray×Bool)))) (fun x=>((x.1.1,x.1.2.1,(pe5 x.1),(pe7 x.1),(pe8 x.1),x.2.1.1,x.2.1.2.1,x.2.1.2.2.1,(pe3 x.2.1),(pe4 x).1,(pe4 x).2.1,(pe4 x).2.2.1),((pe9 x.1),x.2.2.1,(pe3 x)))) qlj (CE:=((List ByteArray)×Int×Int×Int×(List af)×Int×Int)) (E:=((List ae)×(List (ByteArray×Bool)))) (fun c e=>((c.1,c.2.1,(),(),(),c.2.2.1,()),(((pe3 c),(pe4 c),(pe5 c),(pf6 c),()),e.1,e.2,()))) (fun c=>(c.1,c.2.1,c.2.2.1,(pe5 c),(pe6 c),(pe7 c),(pe8 c))) (fun{R} c a nx dn rt=>cz c.1 c.2.1 c.2.2.1 (pe3 c) (pe4 c) (pe5 c) (pe6 c) (pe7 c) (pe8 c) (pe9 c) (pe10 c) (pf11 c) a.1 a.2.1 a.2.2 nx dn rt),ar _ 109 [] qlm (C:=((List ByteArray)×Int×Int×(List af)×Int×Int)) (S:=(Int×(List ae)×(List (ByteArray×Bool)))) (fun x=>((x.1.1,x.1.2.1,x.2.1.1,x.2.1.2.1,x.2.1.2.2.1,(pe3 x.2.1)),((pe5 x.1),x.2.2.1,(pe3 x)))) qll (CE:=Unit) (E:=(List ae)) (fun c e=>(((),()),(e,()))) (fun c=>()) (fun{R} c a nx dn rt=>jv c.1 c.2.1 c.2.2.1 (pe3 c) (pe4 c) (pf5 c) a.1 a.2.1 a.2.2 nx dn rt)],ce 109 tt [] [.tmp 6, .tmp 7] qc1 (fun x=>(x.1.2.1,x.2.1))⟩
theorem wv:CtxM Tryz.prog wx:=iu fits mixed (mC qgz (mC qej (mC te (mC j7 m0))))
theorem qoc:ax Tryz.prog wx 0 (lc 2 Tryz.f16 39215):=lp rfl wv (.two .z (.two .z (.two (.one (.two .z (.two (.d [0,1,0,4,0,16,60,124,252,3,1023] [] []) (.two .z (.two .z (.two .z (.two .z (.two .z (.d [0,0,0,4,0,16,48,0,128,384,1008,2046,4094,8191,16383] [10,11,12,13,14] []))))))))) .z))) s0 (fun c a=>((c.1,c.2.1,(),(),(),c.2.2.1,(),(pe3 c),(pe4 c),a.1,()),(((pe5 c),(pe6 c),(pe7 c),(pe8 c),()),a.2.1,a.2.2,((pe9 c),(pe10 c),(pf11 c),()),()))) (fun y=>((y.1.1,y.1.2.1,(pe5 y.1),y.2.1.1,y.2.1.2.1,y.2.1.2.2.1,(pe3 y.2.1)),(y.2.2.1,(pe3 y))))
theorem qod:ax Tryz.prog wx 1 (lc 0 Tryz.f16 303):=lp rfl wv (.two .z (.two (.one (.two .z (.two .z (.s 0)))) .z)) (sC qoc s0) (fun c a=>((c.1,c.2.1,(),(),(),a.1,()),((c.2.2.1,(pe3 c),(pe4 c),(pf5 c),()),a.2.1,a.2.2,()))) (fun y=>((),y.2.1))
abbrev qek:Mdl:=(ay (.cons (.d false a7.ty) (.cons (.d false (.slice .str)) (.cons (.d false qT0) .nil))) [] [] 2 qc1 (B:=(Bool×(List ae))) (fun b=>(((),b.1,()),(b.2,()))) (fun a=>q0 a.1.1 a.1.2.1 a.1.2.2.1))
theorem qln:MdlOK Tryz.prog 16 qek:=iq Tryz.func16 rfl wv (.two .z (.two .z (.two .z (.two .z (.two (.two .z (.s 1)) .z))))) (sC qod s0)
def qgq:Shp:=⟨[qf4],[]⟩
abbrev qyb:Ctx (Bool):=⟨9,tt,false,false,[],ia [],io [],ce 9 tt [] [.tmp 3] qgq (fun x=>x.1.1)⟩
theorem qya:CtxM Tryz.prog qyb:=iu fits mixed m0
abbrev qcg:Mdl:=(ay (.cons (.d false ae.ty) (.cons (.rp false (.slice .str)) .nil)) [] [] 1 qgq (B:=Bool) (fun b=>((b,()),(()))) (fun a=>yf a.1.1 a.1.2.1))
theorem qfi:MdlOK Tryz.prog 18 qcg:=iq Tryz.func18 rfl qya .z s0
def d7:Shp:=⟨[q83],[]⟩
abbrev ee:Ctx (Int):=⟨19,tt,false,false,[],ia [(18,qcg)],io [ar _ 19 [] jz (C:=((List ae)×(List ByteArray)×Int)) (S:=Int) (fun x=>((x.1.1,x.1.2.1.1,x.1.2.2.1),(pe3 x.1))) jy (CE:=Unit) (E:=Unit) (fun c e=>((()),(()))) (fun c=>()) (fun{R} c a nx dn rt=>bt c.1 c.2.1 c.2.2 a nx dn rt)],ce 19 tt [] [.tmp 4] d7 (fun x=>x.1.1)⟩
theorem eb:CtxM Tryz.prog ee:=iu fits mixed (mC qfi m0)
theorem j2:ax Tryz.prog ee 0 (lc 0 Tryz.f46 37):=lp rfl eb .z s0 (fun c a=>((c.1,(c.2.1,()),c.2.2,a,()),(()))) (fun y=>((),()))
abbrev ed:Mdl:=(ay (.cons (.d false (.slice ae.ty)) (.cons (.fn 18 (.cons (.rp false (.slice .str)) .nil)) .nil)) [] [] 1 d7 (B:=Int) (fun b=>((b,()),(()))) (fun a=>bx a.1.1 a.1.2.1.1))
theorem j1:MdlOK Tryz.prog 46 ed:=iq Tryz.func46 rfl eb (.two .z (.two (.two .z (.s 0)) .z)) (sC j2 s0)
def dm:Shp:=⟨[jw1],[q0i]⟩
abbrev d5:Ctx ((List ae)):=⟨42,tt,false,false,[false],ia [(46,ed),(18,qcg)],io [ar _ 42 [false] jp (C:=(List ByteArray)) (S:=(Int×Int×(List ae))) (fun x=>(x.1.2.1.1,(x.1.2.2.1,(pe3 x.1),x.2.1))) jo (CE:=Unit) (E:=(Int×(List ae))) (fun c e=>(((),e.1,()),(e.2,()))) (fun c=>()) (fun{R} c a nx dn rt=>bi c a.1 a.2.1 a.2.2 nx dn rt)],ce 42 tt [false] [.tmp 4] dm (fun x=>x.2.1)⟩
theorem dy:CtxM Tryz.prog d5:=iu fits mixed (mC j1 (mC qfi m0))
theorem jx:ax Tryz.prog d5 0 (lc 0 Tryz.f17 151):=lp rfl dy .z s0 (fun c a=>(((),(c,()),a.1,a.2.1,()),(a.2.2,()))) (fun y=>((),(y.1.2.1,y.2.1)))
abbrev dz:Mdl:=(ay (.cons (.own 0) (.cons (.fn 18 (.cons (.rp false (.slice .str)) .nil)) .nil)) [q0i] [false] 1 dm (B:=(List ae)) (fun b=>(((),()),(b,()))) (fun a=>bv a.1.2.1.1 a.2.1))
theorem jq:MdlOK Tryz.prog 17 dz:=iq Tryz.func17 rfl dy (.two .z (.two .z (.two .z (.two (.two .z (.s 0)) .z)))) (sC jx s0)
def qfo:Shp:=⟨[],[qrg, .cs 55 1 1 (.cons (.own 3) .nil),qtw,qe6]⟩
abbrev quy:Ctx (((List (ByteArray×Bool))×qL2)):=⟨16,tt,false,false,[true,true,true,false],ia [(44,qde)],io [],ce 16 tt [true,true,true,false] [] qfo (fun x=>((pe3 x),(pe4 x)))⟩
theorem qux:CtxM Tryz.prog quy:=iu fits mixed (mC qej m0)
abbrev qgt:Mdl:=(ay (.cons (.d true qT1) (.cons (.ptr 0) (.cons (.ptr 1) .nil))) [qrg, .cs 55 1 1 (.cons (.own 3) .nil),qtw,qe6] [true,true,true,false] 0 qfo (B:=((List (ByteArray×Bool))×qL2)) (fun b=>((()),(((),()),((),()),b.1,b.2,()))) (fun a=>qm a.1.1 (pe3 a) (pe4 a)))
theorem qp7:MdlOK Tryz.prog 47 qgt:=iq Tryz.func47 rfl qux (.two (.d [0,0,2,7,15] [] []) (.two (.two (.d [0,0,2,7] [3] []) .z) .z)) s0
def qji:Shp:=⟨[(0, .own 1),j0c],[qe6,qe6]⟩
abbrev ym:Ctx ((Bool×qL2×qL2)):=⟨61,tt,false,false,[true],ia [(47,qgt),(45,rx)],io [ar _ 61 [true] qus (C:=(Int×Int×qL2×Int×(List af)×Int×Int)) (S:=(Int×qL2×(List (ByteArray×Bool)))) (fun x=>((x.1.1,(pe5 x.1),x.2.1,x.2.2.1.1,x.2.2.1.2.1,x.2.2.1.2.2.1,(pe3 x.2.2.1)),((pe6 x.1),(pe5 x),(pe6 x)))) qur (CE:=(Int×qL2×Int×(List af)×Int×Int)) (E:=(qL2×(List (ByteArray×Bool)))) (fun c e=>((c.1,(),(),((),(),()),()),(c.2.1,(c.2.2.1,(pe3 c),(pe4 c),(pf5 c),()),((),()),((),()),e.1,e.2,()))) (fun c=>(c.1,c.2.2.1,(pe3 c),(pe4 c),(pe5 c),(pf6 c))) (fun{R} c a nx dn rt=>ta c.1 c.2.1 c.2.2.1 (pe3 c) (pe4 c) (pe5 c) (pf6 c) a.1 a.2.1 a.2.2 nx dn rt),ar _ 61 [true] quu (C:=(Int×Int×(List ag)×Int×qL2×Int×(List af)×Int×Int)) (S:=(Int×qL2×(List (ByteArray×Bool)))) (fun x=>((x.1.1,(pe4 x.1),(pe5 x.1),(pe6 x.1),x.2.1,x.2.2.1.1,x.2.2.1.2.1,x.2.2.1.2.2.1,(pe3 x.2.2.1)),((pe7 x.1),(pe5 x),(pe6 x)))) qut (CE:=(Int×Int×qL2×Int×(List af)×Int×Int)) (E:=(qL2×(List (ByteArray×Bool)))) (fun c e=>((c.1,(),(),((),(),()),c.2.1,()),(c.2.2.1,((pe3 c),(pe4 c),(pe5 c),(pf6 c),()),((),()),((),()),e.1,e.2,()))) (fun c=>(c.1,c.2.1,(pe4 c),(pe5 c),(pe6 c),(pe7 c),(pf8 c))) (fun{R} c a nx dn rt=>tc c.1 c.2.1 c.2.2.1 (pe3 c) (pe4 c) (pe5 c) (pe6 c) (pe7 c) (pf8 c) a.1 a.2.1 a.2.2 nx dn rt),ar _ 61 [true] quw (C:=(Int×qL2×Int×(List af)×Int×Int)) (S:=(Int×qL2×(List (ByteArray×Bool)))) (fun x=>((x.1.1,x.2.1,x.2.2.1.1,x.2.2.1.2.1,x.2.2.1.2.2.1,(pe3 x.2.2.1)),((pe4 x.1),(pe5 x),(pe6 x)))) quv (CE:=(Int×qL2)) (E:=qL2) (fun c e=>((c.1,(),()),(c.2,((),()),e,()))) (fun c=>(c.1,c.2.1)) (fun{R} c a nx dn rt=>ox c.1 c.2.1 c.2.2.1 (pe3 c) (pe4 c) (pf5 c) a.1 a.2.1 a.2.2 nx dn rt)],ce 61 tt [true] [.tmp 6, .tmp 7] qji (fun x=>(x.1.2.1,x.2.1,x.2.2.1))⟩
theorem yl:CtxM Tryz.prog ym:=iu fits mixed (mC qp7 (mC te m0))
theorem qyf:ax Tryz.prog ym 1 (lc 4 Tryz.f19 37471):=lp rfl yl .z s0 (fun c a=>((c.1,(),(),((),(),()),c.2.1,c.2.2.1,(pe3 c),a.1,()),((pe4 c),((pe5 c),(pe6 c),(pe7 c),(pf8 c),()),((),()),((),()),a.2.1,a.2.2,()))) (fun y=>((y.1.1,(pe4 y.1),y.2.1,y.2.2.1.1,y.2.2.1.2.1,y.2.2.1.2.2.1,(pe3 y.2.2.1)),((pe5 y),(pe6 y))))
theorem qyg:ax Tryz.prog ym 2 (lc 2 Tryz.f19 607):=lp rfl yl (.two .z (.two (.one (.two (.d [0,0,0,6,14,31,63,0] [] []) (.s 1))) .z)) (sC qyf s0) (fun c a=>((c.1,(),(),((),(),()),a.1,()),(c.2.1,(c.2.2.1,(pe3 c),(pe4 c),(pf5 c),()),((),()),((),()),a.2.1,a.2.2,()))) (fun y=>((y.1.1,y.2.1),(pe3 y)))
theorem qye:ax Tryz.prog ym 0 (lc 0 Tryz.f19 303):=lp rfl yl .z s0 (fun c a=>((c.1,(),(),((),(),()),(),c.2.1,a.1,()),(c.2.2.1,((pe3 c),(pe4 c),(pe5 c),(pf6 c),()),((),()),((),()),a.2.1,a.2.2,()))) (fun y=>((y.1.1,y.2.1,y.2.2.1.1,y.2.2.1.2.1,y.2.2.1.2.2.1,(pe3 y.2.2.1)),((pe5 y),(pe6 y))))
abbrev qlo:Mdl:=(ay (.cons (.d false a7.ty) (.cons (.own 0) (.cons (.d false qT0) .nil))) [qe6] [true] 2 qji (B:=(Bool×qL2×qL2)) (fun b=>(((),b.1,()),(b.2.1,b.2.2,()))) (fun a=>u6 a.1.1 a.1.2.2.1 a.2.1))
theorem quz:MdlOK Tryz.prog 19 qlo:=iq Tryz.func19 rfl yl (.two .z (.two .z (.two .z (.two .z (.two (.two .z (.s 0)) (.two (.two .z (.s 2)) (.two (.d [0,0,2,0,14,1,63] [] []) .z))))))) (sC qye (sC qyg s0))
def qli:Shp:=⟨[j0g],[]⟩
abbrev q30:Ctx (ByteArray):=⟨11,tt,false,false,[],ia [(44,qde)],io [],ce 11 tt [] [.tmp 4] qli (fun x=>x.1.1)⟩
theorem q3z:CtxM Tryz.prog q30:=iu fits mixed (mC qej m0)
abbrev qs:Mdl:=(ay (.cons (.d false qT1) (.cons (.d false qT1) .nil)) [] [] 1 qli (B:=ByteArray) (fun b=>((b,()),(()))) (fun a=>jl a.1.1 a.1.2.1))
theorem ql:MdlOK Tryz.prog 48 qs:=iq Tryz.func48 rfl q3z .z s0
def qor:Shp:=⟨[jw1,jgt],[qqy]⟩
abbrev q7w:Ctx ((Int×qL1)):=⟨10,tt,false,false,[],ia [(76,qqd)],io [],ce 10 tt [] [.tmp 2, .tmp 3] qor (fun x=>(x.1.2.1,x.2.1))⟩
theorem q7v:CtxM Tryz.prog q7w:=iu fits mixed (mC qsg m0)
abbrev qij:Mdl:=(ay (.cons (.d false a7.ty) .nil) [] [] 2 qor (B:=(Int×qL1)) (fun b=>(((),b.1,()),(b.2,()))) (fun a=>rz a.1.1))
theorem ql1:MdlOK Tryz.prog 80 qij:=iq Tryz.func80 rfl q7v .z s0
def zr:Shp:=⟨[qf4],[]⟩
abbrev qah:Ctx (Bool):=⟨26,tt,false,false,[],ia [],io [ar _ 26 [] qhr (C:=(qL1×qL1×Int)) (S:=Int) (fun x=>((x.1.1,x.1.2.1,x.1.2.2.1),(pe3 x.1))) qhq (CE:=Unit) (E:=Unit) (fun c e=>((()),(()))) (fun c=>()) (fun{R} c a nx dn rt=>gv c.1 c.2.1 c.2.2 a nx dn rt)],ce 26 tt [] [.tmp 4] zr (fun x=>x.1.1)⟩
theorem qag:CtxM Tryz.prog qah:=iu fits mixed m0
theorem qiy:ax Tryz.prog qah 0 (lc 0 Tryz.f23 75):=lp rfl qag (.two .z (.two .z (.two (.one (.two .z (.two (.d [0,0,3,7,0,0,48,112,255] [] []) .z))) .z))) s0 (fun c a=>((c.1,c.2.1,c.2.2,a,()),(()))) (fun y=>((),()))
abbrev fx:Mdl:=(ay (.cons (.d false qT1) (.cons (.d false qT1) .nil)) [] [] 1 zr (B:=Bool) (fun b=>((b,()),(()))) (fun a=>bz a.1.1 a.1.2.1))
theorem gz:MdlOK Tryz.prog 23 fx:=iq Tryz.func23 rfl qag (.two .z (.two .z (.two (.two .z (.s 0)) .z))) (sC qiy s0)
def qjo:Shp:=⟨[jz5,jgt],[qqy]⟩
abbrev ql0:Ctx ((Int×qL1)):=⟨30,tt,false,false,[],ia [(90,yu),(93,qer)],io [ar _ 30 [] qva (C:=(qL1×(List af)×Int)) (S:=(Int×qL1)) (fun x=>((x.1.1,x.1.2.2.1,(pe3 x.1)),((pe4 x.1),x.2.1))) qu9 (CE:=Unit) (E:=qL1) (fun c e=>(((),()),(e,()))) (fun c=>()) (fun{R} c a nx dn rt=>oy c.1 c.2.1 c.2.2 a.1 a.2 nx dn rt)],ce 30 tt [] [.tmp 4, .tmp 5] qjo (fun x=>(x.1.2.1,x.2.1))⟩
theorem qlz:CtxM Tryz.prog ql0:=iu fits mixed (mC qaw (mC qg4 m0))
theorem qyi:ax Tryz.prog ql0 0 (lc 0 Tryz.f81 151):=lp rfl qlz .z s0 (fun c a=>((c.1,(),c.2.1,c.2.2,a.1,()),(a.2,()))) (fun y=>((),y.2.1))
abbrev yo:Mdl:=(ay (.cons (.d false a7.ty) (.cons (.d false qT1) .nil)) [] [] 2 qjo (B:=(Int×qL1)) (fun b=>(((),b.1,()),(b.2,()))) (fun a=>lu a.1.1 a.1.2.1))
theorem qau:MdlOK Tryz.prog 81 yo:=iq Tryz.func81 rfl qlz (.two .z (.two .z (.two .z (.two (.two .z (.s 0)) .z)))) (sC qyi s0)
def qby:Shp:=⟨[qf4],[q6m,qtw]⟩
abbrev qnw:Ctx ((Bool×(List (ByteArray×Bool)))):=⟨11,tt,false,false,[true,true],ia [(48,qs)],io [],ce 11 tt [true,true] [.tmp 5] qby (fun x=>(x.1.1,x.2.2.1))⟩
theorem qnv:CtxM Tryz.prog qnw:=iu fits mixed (mC ql m0)
abbrev uo:Mdl:=(ay (.cons (.d false qT1) (.cons (.d false qT1) (.cons (.ptr 0) .nil))) [q6m,qtw] [true,true] 1 qby (B:=(Bool×(List (ByteArray×Bool)))) (fun b=>((b.1,()),(((),()),b.2,()))) (fun a=>mm a.1.1 a.1.2.1 a.2.2.1))
theorem qae:MdlOK Tryz.prog 49 uo:=iq Tryz.func49 rfl qnv (.two .z (.two (.d [0,0,0,6,15,31] [] []) .z)) s0
def qbz:Shp:=⟨[qf4],[qwl,qrg,qtw]⟩
abbrev qnz:Ctx ((Bool×(List (ByteArray×Bool)))):=⟨24,tt,false,false,[true,true,true],ia [(49,uo)],io [],ce 24 tt [true,true,true] [.tmp 6] qbz (fun x=>(x.1.1,(pe3 x)))⟩
theorem qny:CtxM Tryz.prog qnz:=iu fits mixed (mC qae m0)
abbrev qcy:Mdl:=(ay (.cons (.d false ag.ty) (.cons (.rp false a7.ty) (.cons (.rp false .str) (.cons (.ptr 0) (.cons (.rp false ag.ty) .nil))))) [qwl,qrg,qtw] [true,true,true] 1 qbz (B:=(Bool×(List (ByteArray×Bool)))) (fun b=>((b.1,()),((((),()),()),((),()),b.2,()))) (fun a=>pw a.1.1 a.1.2.1 a.1.2.2.1 (pe4 a.1) (pe3 a)))
theorem qkq:MdlOK Tryz.prog 83 qcy:=iq Tryz.func83 rfl qny (.two .z (.two (.d [0,1,0,4,15,31,63,0,255,511,1023,1023,3071,1023,9215,32767,65535,131071] [15,16,17] []) .z)) s0
def fe:Shp:=⟨[q83],[qwl,qrg,qtw]⟩
abbrev fk:Ctx ((Int×(List (ByteArray×Bool)))):=⟨19,tt,false,false,[true,true,true],ia [(83,qcy)],io [ar _ 19 [true,true,true] mc (C:=((List ag)×a7×ByteArray×ag×Int)) (S:=(Int×(List (ByteArray×Bool)))) (fun x=>((x.1.1,x.1.2.1.1,x.1.2.1.2.1,(pe3 x.1.2.1),x.1.2.2.1),((pe3 x.1),(pe3 x)))) ma (CE:=Unit) (E:=(List (ByteArray×Bool))) (fun c e=>((()),((((),()),()),((),()),e,()))) (fun c=>()) (fun{R} c a nx dn rt=>b9 c.1 c.2.1 c.2.2.1 (pe3 c) (pf4 c) a.1 a.2 nx dn rt)],ce 19 tt [true,true,true] [.tmp 4] fe (fun x=>(x.1.1,(pe3 x)))⟩
theorem fh:CtxM Tryz.prog fk:=iu fits mixed (mC qkq m0)
theorem mo:ax Tryz.prog fk 0 (lc 0 Tryz.f94 37):=lp rfl fh .z s0 (fun c a=>((c.1,(c.2.1,c.2.2.1,(),(pe3 c),()),(pf4 c),a.1,()),((((),()),()),((),()),a.2,()))) (fun y=>((),(pe3 y)))
abbrev fj:Mdl:=(ay (.cons (.d false (.slice ag.ty)) (.cons (.fn 83 (.cons (.rp false a7.ty) (.cons (.rp false .str) (.cons (.ptr 0) (.cons (.rp false ag.ty) .nil))))) .nil)) [qwl,qrg,qtw] [true,true,true] 1 fe (B:=(Int×(List (ByteArray×Bool)))) (fun b=>((b.1,()),((((),()),()),((),()),b.2,()))) (fun a=>c8 a.1.1 a.1.2.1.1 a.1.2.1.2.1 (pe3 a.1.2.1) (pe3 a)))
theorem me:MdlOK Tryz.prog 94 fj:=iq Tryz.func94 rfl fh (.two .z (.two (.two .z (.s 0)) .z)) (sC mo s0)
def eh:Shp:=⟨[qf4],[qwl,qrg,qtw]⟩
abbrev ll:Ctx ((Bool×(List (ByteArray×Bool)))):=⟨9,tt,false,false,[true,true,true],ia [(94,fj)],io [],ce 9 tt [true,true,true] [.tmp 4] eh (fun x=>(x.1.1,(pe3 x)))⟩
theorem lj:CtxM Tryz.prog ll:=iu fits mixed (mC me m0)
abbrev eq:Mdl:=(ay (.cons (.d false (.slice ag.ty)) (.cons (.fn 83 (.cons (.rp false a7.ty) (.cons (.rp false .str) (.cons (.ptr 0) (.cons (.rp false ag.ty) .nil))))) .nil)) [qwl,qrg,qtw] [true,true,true] 1 eh (B:=(Bool×(List (ByteArray×Bool)))) (fun b=>((b.1,()),((((),()),()),((),()),b.2,()))) (fun a=>bg a.1.1 a.1.2.1.1 a.1.2.1.2.1 (pe3 a.1.2.1) (pe3 a)))
theorem kf:MdlOK Tryz.prog 82 eq:=iq Tryz.func82 rfl lj .z s0
def qeg:Shp:=⟨[qf4],[q6m,qtw]⟩
abbrev yh:Ctx ((Bool×(List (ByteArray×Bool)))):=⟨85,tt,false,false,[true,true],ia [(80,qij),(23,fx),(45,rx),(81,yo),(49,uo),(82,eq)],io [ar _ 85 [true,true] qn3 (C:=(qL1×(List ag)×(List ag)×Int×Int×(List af)×Int×Int×Int×(List af)×Int×Int)) (S:=(Int×(List (ByteArray×Bool)))) (fun x=>((x.1.1,(pe4 x.1),(pe5 x.1),(pe6 x.1),(pe3 x).1,(pe3 x).2.1,(pe3 x).2.2.1,(pe3 (pe3 x)),(pe4 x).1,(pe4 x).2.1,(pe4 x).2.2.1,(pe3 (pe4 x))),((pe7 x.1),x.2.2.1))) qn2 (CE:=Unit) (E:=(List (ByteArray×Bool))) (fun c e=>((()),(((),()),e,()))) (fun c=>()) (fun{R} c a nx dn rt=>ij c.1 c.2.1 c.2.2.1 (pe3 c) (pe4 c) (pe5 c) (pe6 c) (pe7 c) (pe8 c) (pe9 c) (pe10 c) (pf11 c) a.1 a.2 nx dn rt),u4 _ 85 [true,true] qn5 (A:=(qL1×qL1×(List (ByteArray×Bool))×Int×(List af)×Int×Int×Int×(List af)×Int×Int)) (fun x=>(x.1.1,x.1.2.1,x.2.2.1,(pe3 x).1,(pe3 x).2.1,(pe3 x).2.2.1,(pe3 (pe3 x)),(pe4 x).1,(pe4 x).2.1,(pe4 x).2.2.1,(pe3 (pe4 x)))) qn4 (CE:=Unit) (E:=Unit) (fun c e=>((()),(()))) (fun c=>()) (fun{R} c dn rt=>uq c.1 c.2.1 c.2.2.1 (pe3 c) (pe4 c) (pe5 c) (pe6 c) (pe7 c) (pe8 c) (pe9 c) (pf10 c) dn rt)],ce 85 tt [true,true] [.tmp 10] qeg (fun x=>(x.1.1,x.2.2.1))⟩
theorem yg:CtxM Tryz.prog yh:=iu fits mixed (mC ql1 (mC gz (mC te (mC qau (mC qae (mC kf m0))))))
theorem qp2:ax Tryz.prog yh 0 (lc 0 Tryz.f52 4863):=lp rfl yg .z s0 (fun c a=>((c.1,(),(),(),c.2.1,c.2.2.1,(pe3 c),a.1,()),(((),()),a.2,((pe4 c),(pe5 c),(pe6 c),(pe7 c),()),((pe8 c),(pe9 c),(pe10 c),(pf11 c),()),(((),()),()),()))) (fun y=>((),y.2.2.1))
theorem qp3:ax Tryz.prog yh 1 (jc Tryz.f52 31):=jn rfl yg (.two .z (.two .z (.two .z (.two .z (.two (.two .z (.s 0)) .z))))) (sC qp2 s0) (fun c=>((c.1,c.2.1,(),(),(),()),(((),()),c.2.2.1,((pe3 c),(pe4 c),(pe5 c),(pe6 c),()),((pe7 c),(pe8 c),(pe9 c),(pf10 c),()),(((),()),()),()))) (fun y=>((),()))
abbrev qfl:Mdl:=(ay (.cons (.d false a7.ty) (.cons (.d false a7.ty) (.cons (.d false qT1) (.cons (.d false qT1) (.cons (.fn 49 (.cons (.ptr 0) .nil)) .nil))))) [q6m,qtw] [true,true] 1 qeg (B:=(Bool×(List (ByteArray×Bool)))) (fun b=>((b.1,()),(((),()),b.2,()))) (fun a=>s8 a.1.1 a.1.2.1 a.1.2.2.1 (pe3 a.1) a.2.2.1))
theorem qn6:MdlOK Tryz.prog 52 qfl:=iq Tryz.func52 rfl yg (.two .z (.two .z (.two .z (.two .z (.s 1))))) (sC qp3 s0)
def xr:Shp:=⟨[qf4],[qwl,qrg,qtw]⟩
abbrev qih:Ctx ((Bool×(List (ByteArray×Bool)))):=⟨21,tt,false,false,[true,true,true],ia [(52,qfl),(48,qs)],io [],ce 21 tt [true,true,true] [.tmp 6] xr (fun x=>(x.1.1,(pe3 x)))⟩
theorem qig:CtxM Tryz.prog qih:=iu fits mixed (mC qn6 (mC ql m0))
abbrev pu:Mdl:=(ay (.cons (.d false ab.ty) (.cons (.rp false a7.ty) (.cons (.rp false a7.ty) (.cons (.ptr 0) (.cons (.ptr 1) .nil))))) [qwl,qrg,qtw] [true,true,true] 1 xr (B:=(Bool×(List (ByteArray×Bool)))) (fun b=>((b.1,()),((((),()),()),((),()),b.2,()))) (fun a=>jd a.1.1 a.1.2.1 a.1.2.2.1 (pe3 a)))
theorem u5:MdlOK Tryz.prog 51 pu:=iq Tryz.func51 rfl qig (.two .z (.two .z (.two (.d [0,0,2,0,8,30,63] [6] []) .z))) s0
def k7:Shp:=⟨[q83],[qwl,qrg,qtw]⟩
abbrev l5:Ctx ((Int×(List (ByteArray×Bool)))):=⟨19,tt,false,false,[true,true,true],ia [(51,pu)],io [ar _ 19 [true,true,true] ua (C:=((List ab)×a7×a7×Int)) (S:=(Int×(List (ByteArray×Bool)))) (fun x=>((x.1.1,x.1.2.1.1,x.1.2.1.2.1,x.1.2.2.1),((pe3 x.1),(pe3 x)))) t8 (CE:=Unit) (E:=(List (ByteArray×Bool))) (fun c e=>((()),((((),()),()),((),()),e,()))) (fun c=>()) (fun{R} c a nx dn rt=>b8 c.1 c.2.1 c.2.2.1 c.2.2.2 a.1 a.2 nx dn rt)],ce 19 tt [true,true,true] [.tmp 4] k7 (fun x=>(x.1.1,(pe3 x)))⟩
theorem l3:CtxM Tryz.prog l5:=iu fits mixed (mC u5 m0)
theorem ut:ax Tryz.prog l5 0 (lc 0 Tryz.f53 37):=lp rfl l3 .z s0 (fun c a=>((c.1,(c.2.1,c.2.2.1,(),(),()),c.2.2.2,a.1,()),((((),()),()),((),()),a.2,()))) (fun y=>((),(pe3 y)))
abbrev l4:Mdl:=(ay (.cons (.d false (.slice ab.ty)) (.cons (.fn 51 (.cons (.rp false a7.ty) (.cons (.rp false a7.ty) (.cons (.ptr 0) (.cons (.ptr 1) .nil))))) .nil)) [qwl,qrg,qtw] [true,true,true] 1 k7 (B:=(Int×(List (ByteArray×Bool)))) (fun b=>((b.1,()),((((),()),()),((),()),b.2,()))) (fun a=>gk a.1.1 a.1.2.1.1 a.1.2.1.2.1 (pe3 a)))
theorem ub:MdlOK Tryz.prog 53 l4:=iq Tryz.func53 rfl l3 (.two .z (.two (.two .z (.s 0)) .z)) (sC ut s0)
def j9:Shp:=⟨[jw1],[qt8,jlg,jvc,qtw]⟩
abbrev k6:Ctx (((List ab)×(List (ByteArray×Bool)))):=⟨42,tt,false,false,[false,true,true,true],ia [(53,l4),(51,pu)],io [ar _ 42 [false,true,true,true] sq (C:=(a7×a7)) (S:=(Int×Int×(List ab)×(List (ByteArray×Bool)))) (fun x=>((x.1.2.1.1,x.1.2.1.2.1),(x.1.2.2.1,(pe3 x.1),x.2.1,(pe4 x)))) sn (CE:=Unit) (E:=(Int×(List ab)×(List (ByteArray×Bool)))) (fun c e=>(((),e.1,()),(e.2.1,(((),()),()),((),()),e.2.2,()))) (fun c=>()) (fun{R} c a nx dn rt=>cn c.1 c.2 a.1 a.2.1 a.2.2.1 a.2.2.2 nx dn rt)],ce 42 tt [false,true,true,true] [.tmp 4] j9 (fun x=>(x.2.1,(pe4 x)))⟩
theorem ky:CtxM Tryz.prog k6:=iu fits mixed (mC ub (mC u5 m0))
theorem t7:ax Tryz.prog k6 0 (lc 0 Tryz.f50 151):=lp rfl ky .z s0 (fun c a=>(((),(c.1,c.2,(),(),()),a.1,a.2.1,()),(a.2.2.1,(((),()),()),((),()),a.2.2.2,()))) (fun y=>((),(y.1.2.1,y.2.1,(pe4 y))))
abbrev kz:Mdl:=(ay (.cons (.own 0) (.cons (.fn 51 (.cons (.rp false a7.ty) (.cons (.rp false a7.ty) (.cons (.ptr 1) (.cons (.ptr 2) .nil))))) .nil)) [qt8,jlg,jvc,qtw] [false,true,true,true] 1 j9 (B:=((List ab)×(List (ByteArray×Bool)))) (fun b=>(((),()),(b.1,(((),()),()),((),()),b.2,()))) (fun a=>c0 a.1.2.1.1 a.1.2.1.2.1 a.2.1 (pe4 a)))
theorem sr:MdlOK Tryz.prog 50 kz:=iq Tryz.func50 rfl ky (.two .z (.two .z (.two .z (.two (.two .z (.s 0)) .z)))) (sC t7 s0)
def qed:Shp:=⟨[(0, .own 2)],[qe6,qe6,qt8]⟩
abbrev qz:Ctx ((qL2×qL2×(List ab))):=⟨55,tt,false,false,[true,true],ia [(48,qs),(50,kz)],io [ar _ 55 [true,true] qnq (C:=(qL1×Int×Int×Int×qL2×qL2×Int×(List af)×Int×Int×Int×(List af)×Int×Int)) (S:=(Int×(List ab)×(List (ByteArray×Bool)))) (fun x=>(((pe5 x.1),(pe7 x.1),(pe8 x.1),(pe10 x.1),x.2.1,x.2.2.1,(pe3 x).1,(pe3 x).2.1,(pe3 x).2.2.1,(pe3 (pe3 x)),(pe4 x).1,(pe4 x).2.1,(pe4 x).2.2.1,(pe3 (pe4 x))),((pe11 x.1),(pe5 x),(pe7 x)))) qnp (CE:=(Int×Int×qL2×qL2×Int×(List af)×Int×Int×Int×(List af)×Int×Int)) (E:=((List ab)×(List (ByteArray×Bool)))) (fun c e=>(((),(),(),(),(),(),c.1,c.2.1,()),(c.2.2.1,(pe3 c),((pe4 c),(pe5 c),(pe6 c),(pe7 c),()),((pe8 c),(pe9 c),(pe10 c),(pf11 c),()),e.1,((),()),e.2,()))) (fun c=>(c.2.1,c.2.2.1,(pe4 c),(pe5 c),(pe6 c),(pe7 c),(pe8 c),(pe9 c),(pe10 c),(pe11 c),(pe12 c),(pf13 c))) (fun{R} c a nx dn rt=>ol c.1 c.2.1 c.2.2.1 (pe3 c) (pe4 c) (pe5 c) (pe6 c) (pe7 c) (pe8 c) (pe9 c) (pe10 c) (pe11 c) (pe12 c) (pf13 c) a.1 a.2.1 a.2.2 nx dn rt),ar _ 55 [true,true] qns (C:=(Int×qL2×qL2×Int×(List af)×Int×Int×Int×(List af)×Int×Int)) (S:=(Int×(List ab)×(List (ByteArray×Bool)))) (fun x=>(((pe6 x.1),x.2.1,x.2.2.1,(pe3 x).1,(pe3 x).2.1,(pe3 x).2.2.1,(pe3 (pe3 x)),(pe4 x).1,(pe4 x).2.1,(pe4 x).2.2.1,(pe3 (pe4 x))),((pe7 x.1),(pe5 x),(pe7 x)))) qnr (CE:=(qL2×qL2×Int×(List af)×Int×Int×Int×(List af)×Int×Int)) (E:=((List ab)×(List (ByteArray×Bool)))) (fun c e=>(((),(),(),(),()),(c.1,c.2.1,(c.2.2.1,(pe3 c),(pe4 c),(pe5 c),()),((pe6 c),(pe7 c),(pe8 c),(pf9 c),()),e.1,((),()),e.2,()))) (fun c=>(c.2.1,c.2.2.1,(pe3 c),(pe4 c),(pe5 c),(pe6 c),(pe7 c),(pe8 c),(pe9 c),(pf10 c))) (fun{R} c a nx dn rt=>om c.1 c.2.1 c.2.2.1 (pe3 c) (pe4 c) (pe5 c) (pe6 c) (pe7 c) (pe8 c) (pe9 c) (pf10 c) a.1 a.2.1 a.2.2 nx dn rt),ar _ 55 [true,true] qnu (C:=(qL2×qL2×Int×(List af)×Int×Int×Int×(List af)×Int×Int)) (S:=(Bool×(List ab)×(List (ByteArray×Bool)))) (fun x=>((x.2.1,x.2.2.1,(pe3 x).1,(pe3 x).2.1,(pe3 x).2.2.1,(pe3 (pe3 x)),(pe4 x).1,(pe4 x).2.1,(pe4 x).2.2.1,(pe3 (pe4 x))),((pe5 x.1),(pe5 x),(pe8 x)))) qnt (CE:=(qL2×qL2)) (E:=(List ab)) (fun c e=>(((),()),(c.1,c.2,e,()))) (fun c=>(c.1,c.2.1)) (fun{R} c a nx dn rt=>oq c.1 c.2.1 c.2.2.1 (pe3 c) (pe4 c) (pe5 c) (pe6 c) (pe7 c) (pe8 c) (pf9 c) a.1 a.2.1 a.2.2 nx dn rt)],ce 55 tt [true,true] [.tmp 8] qed (fun x=>(x.2.1,x.2.2.1,(pe3 x)))⟩
theorem qy:CtxM Tryz.prog qz:=iu fits mixed (mC ql (mC sr m0))
theorem qpz:ax Tryz.prog qz 0 (lc 2 Tryz.f20 39319):=lp rfl qy (.two .z (.two .z (.two (.one (.two .z (.two .z (.d [0,0,0,6,15] [4] [])))) .z))) s0 (fun c a=>(((),(),(),(),(),c.1,(),c.2.1,c.2.2.1,(),(pe3 c),a.1,()),((pe4 c),(pe5 c),((pe6 c),(pe7 c),(pe8 c),(pe9 c),()),((pe10 c),(pe11 c),(pe12 c),(pf13 c),()),a.2.1,((),()),a.2.2,()))) (fun y=>(((pe6 y.1),(pe7 y.1),y.2.1,y.2.2.1,(pe3 y).1,(pe3 y).2.1,(pe3 y).2.2.1,(pe3 (pe3 y)),(pe4 y).1,(pe4 y).2.1,(pe4 y).2.2.1,(pe3 (pe4 y))),((pe5 y),(pe7 y))))
theorem qp1:ax Tryz.prog qz 2 (lc 4 Tryz.f20 607):=lp rfl qy .z s0 (fun c a=>(((),(),(),(),(),a.1,()),(c.1,c.2.1,(c.2.2.1,(pe3 c),(pe4 c),(pe5 c),()),((pe6 c),(pe7 c),(pe8 c),(pf9 c),()),a.2.1,((),()),(((),()),()),a.2.2,()))) (fun y=>((y.2.1,y.2.2.1),(pe3 y)))
theorem qp0:ax Tryz.prog qz 1 (lc 0 Tryz.f20 151):=lp rfl qy (.two .z (.two .z (.two (.one (.two .z (.two .z (.s 0)))) .z))) (sC qpz s0) (fun c a=>(((),(),(),(),(),(),c.1,a.1,()),(c.2.1,c.2.2.1,((pe3 c),(pe4 c),(pe5 c),(pe6 c),()),((pe7 c),(pe8 c),(pe9 c),(pf10 c),()),a.2.1,((),()),a.2.2,()))) (fun y=>((y.2.1,y.2.2.1,(pe3 y).1,(pe3 y).2.1,(pe3 y).2.2.1,(pe3 (pe3 y)),(pe4 y).1,(pe4 y).2.1,(pe4 y).2.2.1,(pe3 (pe4 y))),((pe5 y),(pe7 y))))
abbrev qfj:Mdl:=(ay (.cons (.d false a7.ty) (.cons (.d false a7.ty) (.cons (.own 0) (.cons (.own 1) .nil)))) [qe6,qe6] [true,true] 1 qed (B:=(qL2×qL2×(List ab))) (fun b=>(((),()),(b.1,b.2.1,b.2.2,()))) (fun a=>ow a.1.1 a.1.2.1 a.2.1 a.2.2.1))
theorem qnx:MdlOK Tryz.prog 20 qfj:=iq Tryz.func20 rfl qy (.two .z (.two .z (.two .z (.two (.two .z (.s 1)) (.two .z (.two (.two .z (.s 2)) .z)))))) (sC qp0 (sC qp1 s0))
def qgr:Shp:=⟨[qf4],[]⟩
abbrev qyd:Ctx (Bool):=⟨16,tt,false,false,[],ia [(23,fx)],io [],ce 16 tt [] [.tmp 4] qgr (fun x=>x.1.1)⟩
theorem qyc:CtxM Tryz.prog qyd:=iu fits mixed (mC gz m0)
abbrev qjb:Mdl:=(ay (.cons (.d false ab.ty) (.cons (.rp false qT1) (.cons (.rp false ae.ty) .nil))) [] [] 1 qgr (B:=Bool) (fun b=>((b,()),(()))) (fun a=>qd9 a.1.1 a.1.2.1 a.1.2.2.1))
theorem qrv:MdlOK Tryz.prog 22 qjb:=iq Tryz.func22 rfl qyc .z s0
def m6:Shp:=⟨[q83],[]⟩
abbrev nw:Ctx (Int):=⟨19,tt,false,false,[],ia [(22,qjb)],io [ar _ 19 [] xe (C:=((List ab)×qL1×ae×Int)) (S:=Int) (fun x=>((x.1.1,x.1.2.1.1,x.1.2.1.2.1,x.1.2.2.1),(pe3 x.1))) xd (CE:=Unit) (E:=Unit) (fun c e=>((()),(()))) (fun c=>()) (fun{R} c a nx dn rt=>du c.1 c.2.1 c.2.2.1 c.2.2.2 a nx dn rt)],ce 19 tt [] [.tmp 4] m6 (fun x=>x.1.1)⟩
theorem nu:CtxM Tryz.prog nw:=iu fits mixed (mC qrv m0)
theorem x4:ax Tryz.prog nw 0 (lc 0 Tryz.f53 37):=lp rfl nu .z s0 (fun c a=>((c.1,(c.2.1,c.2.2.1,()),c.2.2.2,a,()),(()))) (fun y=>((),()))
abbrev nv:Mdl:=(ay (.cons (.d false (.slice ab.ty)) (.cons (.fn 22 (.cons (.rp false qT1) (.cons (.rp false ae.ty) .nil))) .nil)) [] [] 1 m6 (B:=Int) (fun b=>((b,()),(()))) (fun a=>i4 a.1.1 a.1.2.1.1 a.1.2.1.2.1))
theorem xf:MdlOK Tryz.prog 53 nv:=iq Tryz.func53 rfl nu (.two .z (.two (.two .z (.s 0)) .z)) (sC x4 s0)
def kq:Shp:=⟨[qf4],[]⟩
abbrev vj:Ctx (Bool):=⟨9,tt,false,false,[],ia [(53,nv)],io [],ce 9 tt [] [.tmp 4] kq (fun x=>x.1.1)⟩
theorem vi:CtxM Tryz.prog vj:=iu fits mixed (mC xf m0)
abbrev lx:Mdl:=(ay (.cons (.d false (.slice ab.ty)) (.cons (.fn 22 (.cons (.rp false qT1) (.cons (.rp false ae.ty) .nil))) .nil)) [] [] 1 kq (B:=Bool) (fun b=>((b,()),(()))) (fun a=>dq a.1.1 a.1.2.1.1 a.1.2.1.2.1))
theorem tx:MdlOK Tryz.prog 21 lx:=iq Tryz.func21 rfl vi .z s0
def qlf:Shp:=⟨[(0, .d true dg.ty),jgt],[]⟩
abbrev qbb:Ctx ((dg×Int)):=⟨138,tt,false,true,[],ia [(15,qlg),(16,qek),(17,dz),(19,qlo),(20,qfj),(21,lx),(24,je)],io [ar _ 138 [] qx5 (C:=(Int×(List ae)×(List ae)×Int×Int×(List af)×Int×Int×Int×(List af)×Int×Int×qL1×qL1×(List ab)×qL1)) (S:=(Int×qL2)) (fun x=>((x.1.1,(pe5 x.1),(pe7 x.1),(pe8 x.1),x.2.1.1,x.2.1.2.1,x.2.1.2.2.1,(pe3 x.2.1),x.2.2.1.1,x.2.2.1.2.1,x.2.2.1.2.2.1,(pe3 x.2.2.1),(pe3 x).1,(pe3 x).2.1,(pe3 x).2.2.1,(pe4 x).1),((pe9 x.1),(pe5 x)))) qx4 (CE:=(Int×(List ae)×Int×(List af)×Int×Int×Int×(List af)×Int×Int×qL1×qL1×(List ab)×qL1)) (E:=qL2) (fun c e=>((c.1,(),(),(),(),c.2.1,(),()),((c.2.2.1,(pe3 c),(pe4 c),(pe5 c),()),((pe6 c),(pe7 c),(pe8 c),(pe9 c),()),((pe10 c),(pe11 c),(pe12 c),()),((pf13 c),()),e,()))) (fun c=>(c.1,c.2.1,(pe4 c),(pe5 c),(pe6 c),(pe7 c),(pe8 c),(pe9 c),(pe10 c),(pe11 c),(pe12 c),(pe13 c),(pe14 c),(pf15 c))) (fun{R} c a nx dn rt=>v7 c.1 c.2.1 c.2.2.1 (pe3 c) (pe4 c) (pe5 c) (pe6 c) (pe7 c) (pe8 c) (pe9 c) (pe10 c) (pe11 c) (pe12 c) (pe13 c) (pe14 c) (pf15 c) a.1 a.2 nx dn rt),ar _ 138 [] qx7 (C:=((List ab)×Int×qL1×qL1×(List ab)×qL1×qL1)) (S:=(Int×(List ab))) (fun x=>((x.1.2.2.1,(pe3 x.1),x.2.1.1,x.2.1.2.1,x.2.1.2.2.1,x.2.2.1.1,x.2.2.1.2.1),((pe4 x.1),(pe3 x)))) qx6 (CE:=(qL1×qL1×(List ab)×qL1×qL1)) (E:=(List ab)) (fun c e=>(((),(),()),((c.1,c.2.1,c.2.2.1,()),((pe3 c),(pf4 c),(),()),e,()))) (fun c=>(c.2.2.1,(pe3 c),(pe4 c),(pe5 c),(pf6 c))) (fun{R} c a nx dn rt=>v8 c.1 c.2.1 c.2.2.1 (pe3 c) (pe4 c) (pe5 c) (pf6 c) a.1 a.2 nx dn rt),ar _ 138 [] qx9 (C:=((List ab)×(List ae)×Int×qL1×qL1×(List ab)×qL1)) (S:=Int) (fun x=>((x.1.2.2.1,(pe3 x.1),(pe4 x.1),x.2.1.1,x.2.1.2.1,x.2.1.2.2.1,x.2.2.1.1),(pe5 x.1))) qx8 (CE:=(qL1×qL1×(List ab))) (E:=Unit) (fun c e=>(((),()),((c.1,c.2.1,c.2.2,()),()))) (fun c=>((pe3 c),(pe4 c),(pe5 c))) (fun{R} c a nx dn rt=>wa c.1 c.2.1 c.2.2.1 (pe3 c) (pe4 c) (pe5 c) (pf6 c) a nx dn rt)],ce 138 tt [] [.cell 8 31, .tmp 9] qlf (fun x=>(x.1.1,x.1.2.1))⟩
theorem qba:CtxM Tryz.prog qbb:=iu fits mixed (mC qul (mC qln (mC jq (mC quz (mC qnx (mC tx (mC j7 m0)))))))
theorem q03:ax Tryz.prog qbb 1 (lc 4 Tryz.f7 313733119):=lp rfl qba (.two .z (.two .z (.two (.one (.two .z (.d [0,1,0,4,12,0,32,124,252,508,1023,2047,4095] [10,12] []))) .z))) s0 (fun c a=>(((),(),c.1,c.2.1,a.1,()),((c.2.2.1,(pe3 c),(pe4 c),()),((pe5 c),(pf6 c),(),()),a.2,()))) (fun y=>((y.2.1.1,y.2.1.2.1,y.2.1.2.2.1,y.2.2.1.1,y.2.2.1.2.1),(pe3 y)))
theorem q04:ax Tryz.prog qbb 2 (lc 2 Tryz.f7 77823):=lp rfl qba (.two .z (.two .z (.two (.one (.two .z (.two .z (.two (.two (.d [0,1,3,0,8,31,0,127] [7] []) (.two (.two .z (.s 1)) .z)) .z)))) .z))) (sC q03 s0) (fun c a=>(((),(),c.1,c.2.1,c.2.2.1,a,()),(((pe3 c),(pe4 c),(pe5 c),()),((pf6 c),()),()))) (fun y=>((y.2.1.1,y.2.1.2.1,y.2.1.2.2.1),()))
theorem q02:ax Tryz.prog qbb 0 (lc 0 Tryz.f7 2431):=lp rfl qba .z s0 (fun c a=>((c.1,(),(),(),(),c.2.1,(),c.2.2.1,(pe3 c),a.1,()),(((pe4 c),(pe5 c),(pe6 c),(pe7 c),()),((pe8 c),(pe9 c),(pe10 c),(pe11 c),()),((pe12 c),(pe13 c),(pe14 c),()),((pf15 c),()),a.2,()))) (fun y=>((y.1.1,(pe5 y.1),y.2.1.1,y.2.1.2.1,y.2.1.2.2.1,(pe3 y.2.1),y.2.2.1.1,y.2.2.1.2.1,y.2.2.1.2.2.1,(pe3 y.2.2.1),(pe3 y).1,(pe3 y).2.1,(pe3 y).2.2.1,(pe4 y).1),(pe5 y)))
abbrev qga:Mdl:=(ay (.cons (.d false a7.ty) (.cons (.d false a7.ty) (.cons (.d false qT1) (.cons (.d false qT0) .nil)))) [] [] 2 qlf (B:=(dg×Int)) (fun b=>((b.1,b.2,()),(()))) (fun a=>ep a.1.1 a.1.2.1 a.1.2.2.1 (pe3 a.1)))
theorem qjc:MdlOK Tryz.prog 7 qga:=iq Tryz.func7 rfl qba (.two .z (.two .z (.two .z (.two .z (.two .z (.two .z (.two .z (.two (.two .z (.s 0)) (.two .z (.two .z (.two .z (.two .z (.two (.two .z (.s 2)) .z))))))))))))) (sC q02 (sC q04 s0))
def qfn:Shp:=⟨[qf4],[]⟩
abbrev quq:Ctx (Bool):=⟨15,tt,false,false,[],ia [(81,yo)],io [],ce 15 tt [] [.tmp 4] qfn (fun x=>x.1.1)⟩
theorem qup:CtxM Tryz.prog quq:=iu fits mixed (mC qau m0)
abbrev qgs:Mdl:=(ay (.cons (.d false a7.ty) (.cons (.d false qT1) .nil)) [] [] 1 qfn (B:=Bool) (fun b=>((b,()),(()))) (fun a=>qk a.1.1 a.1.2.1))
theorem qp6:MdlOK Tryz.prog 64 qgs:=iq Tryz.func64 rfl qup .z s0
def qfp:Shp:=⟨[qf4],[]⟩
abbrev qu3:Ctx (Bool):=⟨17,tt,false,false,[],ia [(64,qgs)],io [],ce 17 tt [] [.tmp 4] qfp (fun x=>x.1.1)⟩
theorem qu2:CtxM Tryz.prog qu3:=iu fits mixed (mC qp6 m0)
abbrev qgw:Mdl:=(ay (.cons (.d false ab.ty) (.cons (.rp false a7.ty) (.cons (.rp false a7.ty) .nil))) [] [] 1 qfp (B:=Bool) (fun b=>((b,()),(()))) (fun a=>qch a.1.1 a.1.2.1 a.1.2.2.1))
theorem qp8:MdlOK Tryz.prog 63 qgw:=iq Tryz.func63 rfl qu2 .z s0
def na:Shp:=⟨[q83],[]⟩
abbrev n7:Ctx (Int):=⟨19,tt,false,false,[],ia [(63,qgw)],io [ar _ 19 [] xl (C:=((List ab)×a7×a7×Int)) (S:=Int) (fun x=>((x.1.1,x.1.2.1.1,x.1.2.1.2.1,x.1.2.2.1),(pe3 x.1))) xk (CE:=Unit) (E:=Unit) (fun c e=>((()),(()))) (fun c=>()) (fun{R} c a nx dn rt=>dx c.1 c.2.1 c.2.2.1 c.2.2.2 a nx dn rt)],ce 19 tt [] [.tmp 4] na (fun x=>x.1.1)⟩
theorem n5:CtxM Tryz.prog n7:=iu fits mixed (mC qp8 m0)
theorem x6:ax Tryz.prog n7 0 (lc 0 Tryz.f53 37):=lp rfl n5 .z s0 (fun c a=>((c.1,(c.2.1,c.2.2.1,()),c.2.2.2,a,()),(()))) (fun y=>((),()))
abbrev n6:Mdl:=(ay (.cons (.d false (.slice ab.ty)) (.cons (.fn 63 (.cons (.rp false a7.ty) (.cons (.rp false a7.ty) .nil))) .nil)) [] [] 1 na (B:=Int) (fun b=>((b,()),(()))) (fun a=>i6 a.1.1 a.1.2.1.1 a.1.2.1.2.1))
theorem xm:MdlOK Tryz.prog 53 n6:=iq Tryz.func53 rfl n5 (.two .z (.two (.two .z (.s 0)) .z)) (sC x6 s0)
def kw:Shp:=⟨[qf4],[]⟩
abbrev vq:Ctx (Bool):=⟨9,tt,false,false,[],ia [(53,n6)],io [],ce 9 tt [] [.tmp 4] kw (fun x=>x.1.1)⟩
theorem vp:CtxM Tryz.prog vq:=iu fits mixed (mC xm m0)
abbrev lz:Mdl:=(ay (.cons (.d false (.slice ab.ty)) (.cons (.fn 63 (.cons (.rp false a7.ty) (.cons (.rp false a7.ty) .nil))) .nil)) [] [] 1 kw (B:=Bool) (fun b=>((b,()),(()))) (fun a=>gi a.1.1 a.1.2.1.1 a.1.2.1.2.1))
theorem t6:MdlOK Tryz.prog 21 lz:=iq Tryz.func21 rfl vp .z s0
def qjl:Shp:=⟨[qf4],[]⟩
abbrev q08:Ctx (Bool):=⟨11,tt,false,false,[],ia [(21,lz)],io [],ce 11 tt [] [.tmp 6] qjl (fun x=>x.1.1)⟩
theorem q07:CtxM Tryz.prog q08:=iu fits mixed (mC t6 m0)
abbrev qlw:Mdl:=(ay (.cons (.d false a7.ty) (.cons (.d false a7.ty) (.cons (.d false (.slice ab.ty)) .nil))) [] [] 1 qjl (B:=Bool) (fun b=>((b,()),(()))) (fun a=>qbc a.1.1 a.1.2.1 a.1.2.2.1))
theorem qu4:MdlOK Tryz.prog 28 qlw:=iq Tryz.func28 rfl q07 .z s0
def qp:Shp:=⟨[qf4],[]⟩
abbrev ro:Ctx (Bool):=⟨26,tt,false,false,[],ia [],io [ar _ 26 [] qb8 (C:=((List ByteArray)×(List ByteArray)×Int)) (S:=Int) (fun x=>((x.1.1,x.1.2.1,x.1.2.2.1),(pe3 x.1))) qb7 (CE:=Unit) (E:=Unit) (fun c e=>((()),(()))) (fun c=>()) (fun{R} c a nx dn rt=>dp c.1 c.2.1 c.2.2 a nx dn rt)],ce 26 tt [] [.tmp 4] qp (fun x=>x.1.1)⟩
theorem rm:CtxM Tryz.prog ro:=iu fits mixed m0
theorem qcv:ax Tryz.prog ro 0 (lc 0 Tryz.f30 75):=lp rfl rm (.two .z (.two .z (.two (.one (.two .z (.two (.d [0,0,3,7,0,0,48,112,255] [] []) .z))) .z))) s0 (fun c a=>((c.1,c.2.1,c.2.2,a,()),(()))) (fun y=>((),()))
abbrev rn:Mdl:=(ay (.cons (.d false (.slice .str)) (.cons (.d false (.slice .str)) .nil)) [] [] 1 qp (B:=Bool) (fun b=>((b,()),(()))) (fun a=>ii a.1.1 a.1.2.1))
theorem qb9:MdlOK Tryz.prog 30 rn:=iq Tryz.func30 rfl rm (.two .z (.two .z (.two (.two .z (.s 0)) .z))) (sC qcv s0)
def qfh:Shp:=⟨[qf4],[]⟩
abbrev quk:Ctx (Bool):=⟨15,tt,false,false,[],ia [(23,fx)],io [],ce 15 tt [] [.tmp 4] qfh (fun x=>x.1.1)⟩
theorem quj:CtxM Tryz.prog quk:=iu fits mixed (mC gz m0)
abbrev qgo:Mdl:=(ay (.cons (.d false ab.ty) (.cons (.rp false qT1) (.cons (.rp false qT1) .nil))) [] [] 1 qfh (B:=Bool) (fun b=>((b,()),(()))) (fun a=>qcf a.1.1 a.1.2.1 a.1.2.2.1))
theorem qpy:MdlOK Tryz.prog 31 qgo:=iq Tryz.func31 rfl quj .z s0
def m8:Shp:=⟨[q83],[]⟩
abbrev n4:Ctx (Int):=⟨19,tt,false,false,[],ia [(31,qgo)],io [ar _ 19 [] xh (C:=((List ab)×qL1×qL1×Int)) (S:=Int) (fun x=>((x.1.1,x.1.2.1.1,x.1.2.1.2.1,x.1.2.2.1),(pe3 x.1))) xg (CE:=Unit) (E:=Unit) (fun c e=>((()),(()))) (fun c=>()) (fun{R} c a nx dn rt=>dv c.1 c.2.1 c.2.2.1 c.2.2.2 a nx dn rt)],ce 19 tt [] [.tmp 4] m8 (fun x=>x.1.1)⟩
theorem ny:CtxM Tryz.prog n4:=iu fits mixed (mC qpy m0)
theorem x5:ax Tryz.prog n4 0 (lc 0 Tryz.f53 37):=lp rfl ny .z s0 (fun c a=>((c.1,(c.2.1,c.2.2.1,()),c.2.2.2,a,()),(()))) (fun y=>((),()))
abbrev nz:Mdl:=(ay (.cons (.d false (.slice ab.ty)) (.cons (.fn 31 (.cons (.rp false qT1) (.cons (.rp false qT1) .nil))) .nil)) [] [] 1 m8 (B:=Int) (fun b=>((b,()),(()))) (fun a=>i5 a.1.1 a.1.2.1.1 a.1.2.1.2.1))
theorem xj:MdlOK Tryz.prog 53 nz:=iq Tryz.func53 rfl ny (.two .z (.two (.two .z (.s 0)) .z)) (sC x5 s0)
def ks:Shp:=⟨[qf4],[]⟩
abbrev vm:Ctx (Bool):=⟨9,tt,false,false,[],ia [(53,nz)],io [],ce 9 tt [] [.tmp 4] ks (fun x=>x.1.1)⟩
theorem vk:CtxM Tryz.prog vm:=iu fits mixed (mC xj m0)
abbrev ly:Mdl:=(ay (.cons (.d false (.slice ab.ty)) (.cons (.fn 31 (.cons (.rp false qT1) (.cons (.rp false qT1) .nil))) .nil)) [] [] 1 ks (B:=Bool) (fun b=>((b,()),(()))) (fun a=>dr a.1.1 a.1.2.1.1 a.1.2.1.2.1))
theorem tz:MdlOK Tryz.prog 21 ly:=iq Tryz.func21 rfl vk .z s0
def qaf:Shp:=⟨[qf4],[q6m,qtw]⟩
abbrev qls:Ctx ((Bool×(List (ByteArray×Bool)))):=⟨11,tt,false,false,[true,true],ia [(48,qs)],io [],ce 11 tt [true,true] [.tmp 5] qaf (fun x=>(x.1.1,x.2.2.1))⟩
theorem qlr:CtxM Tryz.prog qls:=iu fits mixed (mC ql m0)
abbrev rv:Mdl:=(ay (.cons (.d false qT1) (.cons (.d false qT1) (.cons (.ptr 0) .nil))) [q6m,qtw] [true,true] 1 qaf (B:=(Bool×(List (ByteArray×Bool)))) (fun b=>((b.1,()),(((),()),b.2,()))) (fun a=>ko a.1.1 a.1.2.1 a.2.2.1))
theorem yn:MdlOK Tryz.prog 67 rv:=iq Tryz.func67 rfl qlr (.two .z (.two (.d [0,0,0,6,15,31] [] []) .z)) s0
def qb0:Shp:=⟨[qf4],[qxs,qrg,qtw]⟩
abbrev qn1:Ctx ((Bool×(List (ByteArray×Bool)))):=⟨24,tt,false,false,[true,true,true],ia [(67,rv)],io [],ce 24 tt [true,true,true] [.tmp 6] qb0 (fun x=>(x.1.1,(pe3 x)))⟩
theorem qn0:CtxM Tryz.prog qn1:=iu fits mixed (mC yn m0)
abbrev qcz:Mdl:=(ay (.cons (.d false ag.ty) (.cons (.rp false a7.ty) (.cons (.rp false .str) (.cons (.ptr 0) (.cons (.rp false ag.ty) .nil))))) [qxs,qrg,qtw] [true,true,true] 1 qb0 (B:=(Bool×(List (ByteArray×Bool)))) (fun b=>((b.1,()),((((),()),()),((),()),b.2,()))) (fun a=>px a.1.1 a.1.2.1 a.1.2.2.1 (pe4 a.1) (pe3 a)))
theorem qkr:MdlOK Tryz.prog 83 qcz:=iq Tryz.func83 rfl qn0 (.two .z (.two (.d [0,1,0,4,15,31,63,0,255,511,1023,1023,3071,1023,9215,32767,65535,131071] [15,16,17] []) .z)) s0
def fg:Shp:=⟨[q83],[qxs,qrg,qtw]⟩
abbrev fo:Ctx ((Int×(List (ByteArray×Bool)))):=⟨19,tt,false,false,[true,true,true],ia [(83,qcz)],io [ar _ 19 [true,true,true] mg (C:=((List ag)×a7×ByteArray×ag×Int)) (S:=(Int×(List (ByteArray×Bool)))) (fun x=>((x.1.1,x.1.2.1.1,x.1.2.1.2.1,(pe3 x.1.2.1),x.1.2.2.1),((pe3 x.1),(pe3 x)))) mf (CE:=Unit) (E:=(List (ByteArray×Bool))) (fun c e=>((()),((((),()),()),((),()),e,()))) (fun c=>()) (fun{R} c a nx dn rt=>ca c.1 c.2.1 c.2.2.1 (pe3 c) (pf4 c) a.1 a.2 nx dn rt)],ce 19 tt [true,true,true] [.tmp 4] fg (fun x=>(x.1.1,(pe3 x)))⟩
theorem fl:CtxM Tryz.prog fo:=iu fits mixed (mC qkr m0)
theorem mq:ax Tryz.prog fo 0 (lc 0 Tryz.f94 37):=lp rfl fl .z s0 (fun c a=>((c.1,(c.2.1,c.2.2.1,(),(pe3 c),()),(pf4 c),a.1,()),((((),()),()),((),()),a.2,()))) (fun y=>((),(pe3 y)))
abbrev fm:Mdl:=(ay (.cons (.d false (.slice ag.ty)) (.cons (.fn 83 (.cons (.rp false a7.ty) (.cons (.rp false .str) (.cons (.ptr 0) (.cons (.rp false ag.ty) .nil))))) .nil)) [qxs,qrg,qtw] [true,true,true] 1 fg (B:=(Int×(List (ByteArray×Bool)))) (fun b=>((b.1,()),((((),()),()),((),()),b.2,()))) (fun a=>c9 a.1.1 a.1.2.1.1 a.1.2.1.2.1 (pe3 a.1.2.1) (pe3 a)))
theorem mh:MdlOK Tryz.prog 94 fm:=iq Tryz.func94 rfl fl (.two .z (.two (.two .z (.s 0)) .z)) (sC mq s0)
def ek:Shp:=⟨[qf4],[qxs,qrg,qtw]⟩
abbrev ln:Ctx ((Bool×(List (ByteArray×Bool)))):=⟨9,tt,false,false,[true,true,true],ia [(94,fm)],io [],ce 9 tt [true,true,true] [.tmp 4] ek (fun x=>(x.1.1,(pe3 x)))⟩
theorem lm:CtxM Tryz.prog ln:=iu fits mixed (mC mh m0)
abbrev er:Mdl:=(ay (.cons (.d false (.slice ag.ty)) (.cons (.fn 83 (.cons (.rp false a7.ty) (.cons (.rp false .str) (.cons (.ptr 0) (.cons (.rp false ag.ty) .nil))))) .nil)) [qxs,qrg,qtw] [true,true,true] 1 ek (B:=(Bool×(List (ByteArray×Bool)))) (fun b=>((b.1,()),((((),()),()),((),()),b.2,()))) (fun a=>bh a.1.1 a.1.2.1.1 a.1.2.1.2.1 (pe3 a.1.2.1) (pe3 a)))
theorem kg:MdlOK Tryz.prog 82 er:=iq Tryz.func82 rfl lm .z s0
def qei:Shp:=⟨[qf4],[q6m,qtw]⟩
abbrev yj:Ctx ((Bool×(List (ByteArray×Bool)))):=⟨85,tt,false,false,[true,true],ia [(80,qij),(23,fx),(45,rx),(81,yo),(67,rv),(82,er)],io [ar _ 85 [true,true] qn8 (C:=(qL1×(List ag)×(List ag)×Int×Int×(List af)×Int×Int×Int×(List af)×Int×Int)) (S:=(Int×(List (ByteArray×Bool)))) (fun x=>((x.1.1,(pe4 x.1),(pe5 x.1),(pe6 x.1),(pe3 x).1,(pe3 x).2.1,(pe3 x).2.2.1,(pe3 (pe3 x)),(pe4 x).1,(pe4 x).2.1,(pe4 x).2.2.1,(pe3 (pe4 x))),((pe7 x.1),x.2.2.1))) qn7 (CE:=Unit) (E:=(List (ByteArray×Bool))) (fun c e=>((()),(((),()),e,()))) (fun c=>()) (fun{R} c a nx dn rt=>il c.1 c.2.1 c.2.2.1 (pe3 c) (pe4 c) (pe5 c) (pe6 c) (pe7 c) (pe8 c) (pe9 c) (pe10 c) (pf11 c) a.1 a.2 nx dn rt),u4 _ 85 [true,true] qoa (A:=(qL1×qL1×(List (ByteArray×Bool))×Int×(List af)×Int×Int×Int×(List af)×Int×Int)) (fun x=>(x.1.1,x.1.2.1,x.2.2.1,(pe3 x).1,(pe3 x).2.1,(pe3 x).2.2.1,(pe3 (pe3 x)),(pe4 x).1,(pe4 x).2.1,(pe4 x).2.2.1,(pe3 (pe4 x)))) qn9 (CE:=Unit) (E:=Unit) (fun c e=>((()),(()))) (fun c=>()) (fun{R} c dn rt=>ur c.1 c.2.1 c.2.2.1 (pe3 c) (pe4 c) (pe5 c) (pe6 c) (pe7 c) (pe8 c) (pe9 c) (pf10 c) dn rt)],ce 85 tt [true,true] [.tmp 10] qei (fun x=>(x.1.1,x.2.2.1))⟩
theorem yi:CtxM Tryz.prog yj:=iu fits mixed (mC ql1 (mC gz (mC te (mC qau (mC yn (mC kg m0))))))
theorem qp4:ax Tryz.prog yj 0 (lc 0 Tryz.f52 4863):=lp rfl yi .z s0 (fun c a=>((c.1,(),(),(),c.2.1,c.2.2.1,(pe3 c),a.1,()),(((),()),a.2,((pe4 c),(pe5 c),(pe6 c),(pe7 c),()),((pe8 c),(pe9 c),(pe10 c),(pf11 c),()),(((),()),()),()))) (fun y=>((),y.2.2.1))
theorem qp5:ax Tryz.prog yj 1 (jc Tryz.f52 31):=jn rfl yi (.two .z (.two .z (.two .z (.two .z (.two (.two .z (.s 0)) .z))))) (sC qp4 s0) (fun c=>((c.1,c.2.1,(),(),(),()),(((),()),c.2.2.1,((pe3 c),(pe4 c),(pe5 c),(pe6 c),()),((pe7 c),(pe8 c),(pe9 c),(pf10 c),()),(((),()),()),()))) (fun y=>((),()))
abbrev qfm:Mdl:=(ay (.cons (.d false a7.ty) (.cons (.d false a7.ty) (.cons (.d false qT1) (.cons (.d false qT1) (.cons (.fn 67 (.cons (.ptr 0) .nil)) .nil))))) [q6m,qtw] [true,true] 1 qei (B:=(Bool×(List (ByteArray×Bool)))) (fun b=>((b.1,()),(((),()),b.2,()))) (fun a=>s9 a.1.1 a.1.2.1 a.1.2.2.1 (pe3 a.1) a.2.2.1))
theorem qob:MdlOK Tryz.prog 52 qfm:=iq Tryz.func52 rfl yi (.two .z (.two .z (.two .z (.two .z (.s 1))))) (sC qp5 s0)
def u7:Shp:=⟨[qf4],[qxs,qrg,qtw]⟩
abbrev qgv:Ctx ((Bool×(List (ByteArray×Bool)))):=⟨15,tt,false,false,[true,true,true],ia [(52,qfm)],io [],ce 15 tt [true,true,true] [.tmp 5] u7 (fun x=>(x.1.1,(pe3 x)))⟩
theorem qgu:CtxM Tryz.prog qgv:=iu fits mixed (mC qob m0)
abbrev xt:Mdl:=(ay (.cons (.d false ab.ty) (.cons (.rp false a7.ty) (.cons (.rp false a7.ty) (.cons (.ptr 0) .nil)))) [qxs,qrg,qtw] [true,true,true] 1 u7 (B:=(Bool×(List (ByteArray×Bool)))) (fun b=>((b.1,()),((((),()),()),((),()),b.2,()))) (fun a=>p8 a.1.1 a.1.2.1 a.1.2.2.1 (pe3 a)))
theorem qe8:MdlOK Tryz.prog 68 xt:=iq Tryz.func68 rfl qgu .z s0
def k9:Shp:=⟨[q83],[qxs,qrg,qtw]⟩
abbrev l8:Ctx ((Int×(List (ByteArray×Bool)))):=⟨19,tt,false,false,[true,true,true],ia [(68,xt)],io [ar _ 19 [true,true,true] ud (C:=((List ab)×a7×a7×Int)) (S:=(Int×(List (ByteArray×Bool)))) (fun x=>((x.1.1,x.1.2.1.1,x.1.2.1.2.1,x.1.2.2.1),((pe3 x.1),(pe3 x)))) uc (CE:=Unit) (E:=(List (ByteArray×Bool))) (fun c e=>((()),((((),()),()),((),()),e,()))) (fun c=>()) (fun{R} c a nx dn rt=>db c.1 c.2.1 c.2.2.1 c.2.2.2 a.1 a.2 nx dn rt)],ce 19 tt [true,true,true] [.tmp 4] k9 (fun x=>(x.1.1,(pe3 x)))⟩
theorem l6:CtxM Tryz.prog l8:=iu fits mixed (mC qe8 m0)
theorem uu:ax Tryz.prog l8 0 (lc 0 Tryz.f53 37):=lp rfl l6 .z s0 (fun c a=>((c.1,(c.2.1,c.2.2.1,(),()),c.2.2.2,a.1,()),((((),()),()),((),()),a.2,()))) (fun y=>((),(pe3 y)))
abbrev l7:Mdl:=(ay (.cons (.d false (.slice ab.ty)) (.cons (.fn 68 (.cons (.rp false a7.ty) (.cons (.rp false a7.ty) (.cons (.ptr 0) .nil)))) .nil)) [qxs,qrg,qtw] [true,true,true] 1 k9 (B:=(Int×(List (ByteArray×Bool)))) (fun b=>((b.1,()),((((),()),()),((),()),b.2,()))) (fun a=>gl a.1.1 a.1.2.1.1 a.1.2.1.2.1 (pe3 a)))
theorem ue:MdlOK Tryz.prog 53 l7:=iq Tryz.func53 rfl l6 (.two .z (.two (.two .z (.s 0)) .z)) (sC uu s0)
def qc3:Shp:=⟨[q83],[]⟩
abbrev qen:Ctx (Int):=⟨29,tt,false,false,[],ia [(48,qs),(53,l7)],io [ar _ 29 [] qlq (C:=((List ab)×(List ab)×Int×Int×(List af)×Int×Int×Int×(List af)×Int×Int)) (S:=(Int×(List (ByteArray×Bool)))) (fun x=>((x.1.1,(pe4 x.1),(pe5 x.1),x.2.1.1,x.2.1.2.1,x.2.1.2.2.1,(pe3 x.2.1),x.2.2.1.1,x.2.2.1.2.1,x.2.2.1.2.2.1,(pe3 x.2.2.1)),((pe6 x.1),(pe4 x)))) qlp (CE:=((List ab)×Int×(List af)×Int×Int×Int×(List af)×Int×Int)) (E:=(List (ByteArray×Bool))) (fun c e=>((c.1,(),(),(),()),((c.2.1,c.2.2.1,(pe3 c),(pe4 c),()),((pe5 c),(pe6 c),(pe7 c),(pf8 c),()),((),()),e,()))) (fun c=>(c.1,(pe3 c),(pe4 c),(pe5 c),(pe6 c),(pe7 c),(pe8 c),(pe9 c),(pf10 c))) (fun{R} c a nx dn rt=>nm c.1 c.2.1 c.2.2.1 (pe3 c) (pe4 c) (pe5 c) (pe6 c) (pe7 c) (pe8 c) (pe9 c) (pf10 c) a.1 a.2 nx dn rt)],ce 29 tt [] [.tmp 6] qc3 (fun x=>x.1.1)⟩
theorem qel:CtxM Tryz.prog qen:=iu fits mixed (mC ql (mC ue m0))
theorem qoe:ax Tryz.prog qen 0 (lc 0 Tryz.f32 75):=lp rfl qel (.two .z (.two .z (.two (.one (.two .z (.d [0,0,2,0,8,30,63] [6] []))) .z))) s0 (fun c a=>((c.1,(),(),(),c.2.1,c.2.2.1,a.1,()),(((pe3 c),(pe4 c),(pe5 c),(pe6 c),()),((pe7 c),(pe8 c),(pe9 c),(pf10 c),()),((),()),a.2,()))) (fun y=>((y.1.1,y.2.1.1,y.2.1.2.1,y.2.1.2.2.1,(pe3 y.2.1),y.2.2.1.1,y.2.2.1.2.1,y.2.2.1.2.2.1,(pe3 y.2.2.1)),(pe4 y)))
abbrev qem:Mdl:=(ay (.cons (.d false a7.ty) (.cons (.d false a7.ty) (.cons (.d false (.slice ab.ty)) .nil))) [] [] 1 qc3 (B:=Int) (fun b=>((b,()),(()))) (fun a=>rb a.1.1 a.1.2.1 a.1.2.2.1))
theorem qlt:MdlOK Tryz.prog 32 qem:=iq Tryz.func32 rfl qel (.two .z (.two .z (.two (.two .z (.s 0)) .z))) (sC qoe s0)
def qja:Shp:=⟨[qf4],[]⟩
abbrev q01:Ctx (Bool):=⟨78,tt,false,false,[],ia [(27,qgb),(28,qlw),(29,qas),(30,rn),(23,fx),(21,ly),(32,qem)],io [],ce 78 tt [] [.tmp 8] qja (fun x=>x.1.1)⟩
theorem q00:CtxM Tryz.prog q01:=iu fits mixed (mC qje (mC qu4 (mC qee (mC qb9 (mC gz (mC tz (mC qlt m0)))))))
abbrev qd7:Mdl:=(ay (.cons (.d false a7.ty) (.cons (.d false a7.ty) (.cons (.d false qT1) (.cons (.d false dg.ty) .nil)))) [] [] 1 qja (B:=Bool) (fun b=>((b,()),(()))) (fun a=>qr a.1.1 a.1.2.1 a.1.2.2.1 (pe3 a.1)))
theorem qgp:MdlOK Tryz.prog 9 qd7:=iq Tryz.func9 rfl q00 .z s0
def qoi:Shp:=⟨[qf4],[]⟩
abbrev q7d:Ctx (Bool):=⟨46,tt,false,false,[],ia [(12,qwv),(7,qga),(9,qd7)],io [],ce 46 tt [] [.tmp 0] qoi (fun x=>x.1.1)⟩
theorem q7c:CtxM Tryz.prog q7d:=iu fits mixed (mC q3t (mC qjc (mC qgp m0)))
abbrev qrn:Mdl:=(ay .nil [] [] 1 qoi (B:=Bool) (fun b=>((b,()),(()))) (fun a=>qk9))
theorem q0s:MdlOK Tryz.prog 4 qrn:=iq Tryz.func4 rfl q7c .z s0
def qi7:Shp:=⟨[qf4],[]⟩
abbrev q0u:Ctx (Bool):=⟨19,tt,false,false,[],ia [],io [],ce 19 tt [] [.tmp 2] qi7 (fun x=>x.1.1)⟩
theorem q0t:CtxM Tryz.prog q0u:=iu fits mixed m0
abbrev qlb:Mdl:=(ay (.cons (.d false af.ty) .nil) [] [] 1 qi7 (B:=Bool) (fun b=>((b,()),(()))) (fun a=>qa9 a.1.1))
theorem que:MdlOK Tryz.prog 14 qlb:=iq Tryz.func14 rfl q0t .z s0
def iy:Shp:=⟨[q83],[]⟩
abbrev jh:Ctx (Int):=⟨19,tt,false,false,[],ia [(14,qlb)],io [ar _ 19 [] qd (C:=((List af)×Int)) (S:=Int) (fun x=>((x.1.1,x.1.2.2.1),(pe3 x.1))) qc (CE:=Unit) (E:=Unit) (fun c e=>((()),(()))) (fun c=>()) (fun{R} c a nx dn rt=>cx c.1 c.2 a nx dn rt)],ce 19 tt [] [.tmp 4] iy (fun x=>x.1.1)⟩
theorem jf:CtxM Tryz.prog jh:=iu fits mixed (mC que m0)
theorem qq:ax Tryz.prog jh 0 (lc 0 Tryz.f42 37):=lp rfl jf .z s0 (fun c a=>((c.1,(()),c.2,a,()),(()))) (fun y=>((),()))
abbrev jg:Mdl:=(ay (.cons (.d false (.slice af.ty)) (.cons (.fn 14 .nil) .nil)) [] [] 1 iy (B:=Int) (fun b=>((b,()),(()))) (fun a=>eu a.1.1))
theorem qe:MdlOK Tryz.prog 42 jg:=iq Tryz.func42 rfl jf (.two .z (.two (.two .z (.s 0)) .z)) (sC qq s0)
def gq:Shp:=⟨[qf4],[]⟩
abbrev ph:Ctx (Bool):=⟨9,tt,false,false,[],ia [(42,jg)],io [],ce 9 tt [] [.tmp 4] gq (fun x=>x.1.1)⟩
theorem pg:CtxM Tryz.prog ph:=iu fits mixed (mC qe m0)
abbrev ib:Mdl:=(ay (.cons (.d false (.slice af.ty)) (.cons (.fn 14 .nil) .nil)) [] [] 1 gq (B:=Bool) (fun b=>((b,()),(()))) (fun a=>bj a.1.1))
theorem oj:MdlOK Tryz.prog 13 ib:=iq Tryz.func13 rfl pg .z s0
def qok:Shp:=⟨[qf4],[]⟩
abbrev q7f:Ctx (Bool):=⟨32,tt,false,false,[],ia [(13,ib)],io [],ce 32 tt [] [.tmp 2] qok (fun x=>x.1.1)⟩
theorem q7e:CtxM Tryz.prog q7f:=iu fits mixed (mC oj m0)
abbrev qro:Mdl:=(ay (.cons (.d false a7.ty) .nil) [] [] 1 qok (B:=Bool) (fun b=>((b,()),(()))) (fun a=>qbx a.1.1))
theorem q0v:MdlOK Tryz.prog 5 qro:=iq Tryz.func5 rfl q7e .z s0
def qrq:Shp:=⟨[qf4],[]⟩
abbrev jah:Ctx (Bool):=⟨16,tt,false,false,[],ia [],io [],ce 16 tt [] [.tmp 2] qrq (fun x=>x.1.1)⟩
theorem jag:CtxM Tryz.prog jah:=iu fits mixed m0
abbrev qwx:Mdl:=(ay (.cons (.d false qT1) .nil) [] [] 1 qrq (B:=Bool) (fun b=>((b,()),(()))) (fun a=>qie a.1.1))
theorem q3u:MdlOK Tryz.prog 6 qwx:=iq Tryz.func6 rfl jag .z s0
def qmg:Shp:=⟨[qf4],[]⟩
abbrev q4g:Ctx (Bool):=⟨17,tt,false,false,[],ia [],io [],ce 17 tt [] [.tmp 2] qmg (fun x=>x.1.1)⟩
theorem q4f:CtxM Tryz.prog q4g:=iu fits mixed m0
abbrev qo1:Mdl:=(ay (.cons (.d false (.int .u8)) .nil) [] [] 1 qmg (B:=Bool) (fun b=>((b,()),(()))) (fun a=>yz a.1.1))
theorem qyu:MdlOK Tryz.prog 95 qo1:=iq Tryz.func95 rfl q4f .z s0
def qmf:Shp:=⟨[qf4],[]⟩
abbrev qo0:Ctx (Bool):=⟨52,tt,false,false,[],ia [(95,qo1)],io [ar _ 52 [] qys (C:=ByteArray) (S:=Int) (fun x=>(x.1.1,x.1.2.1)) qyr (CE:=Unit) (E:=Unit) (fun c e=>((()),(()))) (fun c=>()) (fun{R} c a nx dn rt=>qn c a nx dn rt)],ce 52 tt [] [.tmp 2] qmf (fun x=>x.1.1)⟩
theorem qoy:CtxM Tryz.prog qo0:=iu fits mixed (mC qyu m0)
theorem q12:ax Tryz.prog qo0 0 (lc 0 Tryz.f84 75):=lp rfl qoy .z s0 (fun c a=>((c,a,()),(()))) (fun y=>((),()))
abbrev qoz:Mdl:=(ay (.cons (.d false .str) .nil) [] [] 1 qmf (B:=Bool) (fun b=>((b,()),(()))) (fun a=>qdg a.1.1))
theorem qyt:MdlOK Tryz.prog 84 qoz:=iq Tryz.func84 rfl qoy (.two .z (.two .z (.two (.two .z (.s 0)) .z))) (sC q12 s0)
def qmr:Shp:=⟨[qf4],[]⟩
abbrev qo6:Ctx (Bool):=⟨41,tt,false,false,[],ia [],io [ar _ 41 [] qyz (C:=(Int×qL1)) (S:=Int) (fun x=>((x.1.1,x.1.2.1),x.1.2.2.1)) qyy (CE:=Unit) (E:=Unit) (fun c e=>((()),(()))) (fun c=>()) (fun{R} c a nx dn rt=>nh c.1 c.2 a nx dn rt)],ce 41 tt [] [.tmp 4] qmr (fun x=>x.1.1)⟩
theorem qo4:CtxM Tryz.prog qo6:=iu fits mixed m0
theorem q2c:ax Tryz.prog qo6 0 (lc 0 Tryz.f85 37):=lp rfl qo4 (.two .z (.two (.one (.two (.d [0,0,3,7,15,31,63,63,255,511,63,2047,4095,8191,16383,32767,65535,131071,131071,393215,1048575,2097151,131071,131071,12713983,29491199,67108863,134217727,268435455] [] []) .z)) .z)) s0 (fun c a=>((c.1,c.2,a,()),(()))) (fun y=>((),()))
abbrev qo5:Mdl:=(ay (.cons (.d false qT0) (.cons (.d false qT1) .nil)) [] [] 1 qmr (B:=Bool) (fun b=>((b,()),(()))) (fun a=>qa a.1.1 a.1.2.1))
theorem qy0:MdlOK Tryz.prog 85 qo5:=iq Tryz.func85 rfl qo4 (.two .z (.two (.two .z (.s 0)) .z)) (sC q2c s0)
def qo3:Shp:=⟨[qf4],[]⟩
abbrev qss:Ctx (Bool):=⟨80,tt,false,false,[],ia [(84,qoz),(85,qo5)],io [ar _ 80 [] q2b (C:=(Int×(List af)×Int×Int)) (S:=Int) (fun x=>((x.2.1.1,x.2.1.2.1,x.2.1.2.2.1,(pe3 x.2.1)),x.1.2.1)) q2a (CE:=Unit) (E:=Unit) (fun c e=>((()),(()))) (fun c=>()) (fun{R} c a nx dn rt=>y6 c.1 c.2.1 c.2.2.1 c.2.2.2 a nx dn rt)],ce 80 tt [] [.tmp 2] qo3 (fun x=>x.1.1)⟩
theorem qsr:CtxM Tryz.prog qss:=iu fits mixed (mC qyt (mC qy0 m0))
theorem q4l:ax Tryz.prog qss 0 (lc 0 Tryz.f54 75):=lp rfl qsr .z s0 (fun c a=>(((),a,()),((c.1,c.2.1,c.2.2.1,c.2.2.2,()),()))) (fun y=>((),()))
abbrev y7:Mdl:=(ay (.cons (.d false a7.ty) .nil) [] [] 1 qo3 (B:=Bool) (fun b=>((b,()),(()))) (fun a=>sc a.1.1))
theorem y8:MdlOK Tryz.prog 54 y7:=iq Tryz.func54 rfl qsr (.two .z (.two .z (.two (.two .z (.s 0)) .z))) (sC q4l s0)
def qxd:Shp:=⟨[qf4],[]⟩
abbrev q16:Ctx (Bool):=⟨18,tt,false,false,[],ia [],io [ar _ 18 [] q8a (C:=(qL1×Int)) (S:=Int) (fun x=>((x.1.1,x.1.2.1),x.1.2.2.1)) q79 (CE:=Unit) (E:=Unit) (fun c e=>((()),(()))) (fun c=>()) (fun{R} c a nx dn rt=>qdh c.1 c.2 a nx dn rt)],ce 18 tt [] [.tmp 4] qxd (fun x=>x.1.1)⟩
theorem q15:CtxM Tryz.prog q16:=iu fits mixed m0
theorem ja7:ax Tryz.prog q16 0 (lc 0 Tryz.f57 37):=lp rfl q15 .z s0 (fun c a=>((c.1,c.2,a,()),(()))) (fun y=>((),()))
abbrev qin:Mdl:=(ay (.cons (.d false qT1) (.cons (.d false qT0) .nil)) [] [] 1 qxd (B:=Bool) (fun b=>((b,()),(()))) (fun a=>qt a.1.1 a.1.2.1))
theorem qio:MdlOK Tryz.prog 57 qin:=iq Tryz.func57 rfl q15 (.two .z (.two (.two .z (.s 0)) .z)) (sC ja7 s0)
def qo8:Shp:=⟨[jw1],[qqy]⟩
abbrev qdj:Ctx (qL1):=⟨72,tt,false,false,[],ia [(57,qin)],io [ar _ 72 [] q2e (C:=(Int×Int×Int×(List af)×Int×Int)) (S:=(Int×qL1)) (fun x=>((x.1.2.2.1,(pe3 x.1),x.2.1.1,x.2.1.2.1,x.2.1.2.2.1,(pe3 x.2.1)),((pe4 x.1),x.2.2.1))) q2d (CE:=(Int×Int×Int×(List af)×Int×Int)) (E:=qL1) (fun c e=>(((),(),c.1,c.2.1,()),((c.2.2.1,(pe3 c),(pe4 c),(pf5 c),()),e,()))) (fun c=>(c.1,c.2.1,c.2.2.1,(pe3 c),(pe4 c),(pf5 c))) (fun{R} c a nx dn rt=>sd c.1 c.2.1 c.2.2.1 (pe3 c) (pe4 c) (pf5 c) a.1 a.2 nx dn rt),ar _ 72 [] q2g (C:=(Int×Int×(List af)×Int×Int)) (S:=(Int×qL1)) (fun x=>((x.1.2.2.1,x.2.1.1,x.2.1.2.1,x.2.1.2.2.1,(pe3 x.2.1)),((pe3 x.1),x.2.2.1))) q2f (CE:=(Int×Int×(List af)×Int×Int)) (E:=qL1) (fun c e=>(((),(),c.1,()),((c.2.1,c.2.2.1,(pe3 c),(pf4 c),()),e,()))) (fun c=>(c.1,c.2.1,c.2.2.1,(pe3 c),(pf4 c))) (fun{R} c a nx dn rt=>se c.1 c.2.1 c.2.2.1 (pe3 c) (pf4 c) a.1 a.2 nx dn rt),ar _ 72 [] q2i (C:=(Int×(List af)×Int×Int)) (S:=(Int×qL1)) (fun x=>((x.2.1.1,x.2.1.2.1,x.2.1.2.2.1,(pe3 x.2.1)),(x.1.2.2.1,x.2.2.1))) q2h (CE:=Unit) (E:=qL1) (fun c e=>(((),()),(e,()))) (fun c=>()) (fun{R} c a nx dn rt=>y9 c.1 c.2.1 c.2.2.1 c.2.2.2 a.1 a.2 nx dn rt)],ce 72 tt [] [.tmp 4] qo8 (fun x=>x.2.1)⟩
theorem qdi:CtxM Tryz.prog qdj:=iu fits mixed (mC qio m0)
theorem q4p:ax Tryz.prog qdj 0 (lc 4 Tryz.f55 627275):=lp rfl qdi .z s0 (fun c a=>(((),(),c.1,c.2.1,a.1,()),((c.2.2.1,(pe3 c),(pe4 c),(pf5 c),()),a.2,()))) (fun y=>((y.1.2.2.1,(pe3 y.1),y.2.1.1,y.2.1.2.1,y.2.1.2.2.1,(pe3 y.2.1)),y.2.2.1))
theorem q4q:ax Tryz.prog qdj 1 (lc 2 Tryz.f55 4683):=lp rfl qdi (.two .z (.two (.one (.two (.two (.d [0,1,0,7,15,31,0,0,192,448,1023,2047] [] []) .z) (.two .z (.s 0)))) .z)) (sC q4p s0) (fun c a=>(((),(),c.1,a.1,()),((c.2.1,c.2.2.1,(pe3 c),(pf4 c),()),a.2,()))) (fun y=>((y.1.2.2.1,y.2.1.1,y.2.1.2.1,y.2.1.2.2.1,(pe3 y.2.1)),y.2.2.1))
theorem q4r:ax Tryz.prog qdj 2 (lc 0 Tryz.f55 75):=lp rfl qdi (.two .z (.two (.one (.two .z (.s 1))) .z)) (sC q4q s0) (fun c a=>(((),(),a.1,()),((c.1,c.2.1,c.2.2.1,c.2.2.2,()),a.2,()))) (fun y=>((),y.2.1))
abbrev qs0:Mdl:=(ay (.cons (.d false a7.ty) (.cons (.d false qT0) .nil)) [] [] 1 qo8 (B:=qL1) (fun b=>(((),()),(b,()))) (fun a=>qb3 a.1.1 a.1.2.1))
theorem q2j:MdlOK Tryz.prog 55 qs0:=iq Tryz.func55 rfl qdi (.two .z (.two .z (.two (.two .z (.s 2)) .z))) (sC q4r s0)
def qj2:Shp:=⟨[(0, .d true a7.ty)],[]⟩
abbrev qmp:Ctx (a7):=⟨42,tt,false,false,[],ia [],io [ar _ 42 [] qvz (C:=(Int×(List af)×Int×Int×Int×(List af)×Int×Int×Int×Int×Int)) (S:=(Int×(List af))) (fun x=>((x.2.1.1,x.2.1.2.1,x.2.1.2.2.1,(pe3 x.2.1),x.2.2.1.1,x.2.2.1.2.1,x.2.2.1.2.2.1,(pe3 x.2.2.1),(pe3 x).1,(pe3 x).2.2.1,(pe3 (pe3 x))),((pe3 x.1),(pe4 x)))) qvy (CE:=(Int×(List af)×Int×Int×Int×Int×Int)) (E:=(List af)) (fun c e=>(((),(),()),((c.1,c.2.1,c.2.2.1,(pe3 c),()),((pe4 c),(),(pe5 c),(pf6 c),()),e,()))) (fun c=>((pe4 c),(pe5 c),(pe6 c),(pe7 c),(pe8 c),(pe9 c),(pf10 c))) (fun{R} c a nx dn rt=>tq c.1 c.2.1 c.2.2.1 (pe3 c) (pe4 c) (pe5 c) (pe6 c) (pe7 c) (pe8 c) (pe9 c) (pf10 c) a.1 a.2 nx dn rt)],ce 42 tt [] [.cell 2 24] qj2 (fun x=>x.1.1)⟩
theorem qmn:CtxM Tryz.prog qmp:=iu fits mixed m0
theorem qyx:ax Tryz.prog qmp 0 (lc 0 Tryz.f56 75):=lp rfl qmn (.two .z (.two (.one (.two .z (.d [0,1,0,4,0,0,32,112,0,0,512,2032,4092,8188,16383,32767,65535] [7,11,12,13,14,16] []))) .z)) s0 (fun c a=>(((),(),(),a.1,()),((c.1,c.2.1,c.2.2.1,(pe3 c),()),((pe4 c),(pe5 c),(pe6 c),(pe7 c),()),((pe8 c),(),(pe9 c),(pf10 c),()),a.2,()))) (fun y=>((y.2.1.1,y.2.1.2.1,y.2.1.2.2.1,(pe3 y.2.1),y.2.2.1.1,y.2.2.1.2.2.1,(pe3 y.2.2.1)),(pe3 y)))
abbrev qmo:Mdl:=(ay (.cons (.d false a7.ty) .nil) [] [] 1 qj2 (B:=a7) (fun b=>((b,()),(()))) (fun a=>qbi a.1.1))
theorem qv0:MdlOK Tryz.prog 56 qmo:=iq Tryz.func56 rfl qmn (.two .z (.two .z (.two (.two .z (.s 0)) .z))) (sC qyx s0)
def qs2:Shp:=⟨[qf4],[]⟩
abbrev qxm:Ctx (Bool):=⟨18,tt,false,false,[],ia [(57,qin)],io [ar _ 18 [] q4t (C:=(qL1×qL1)) (S:=Int) (fun x=>((x.1.1,x.1.2.1),x.1.2.2.1)) q4s (CE:=Unit) (E:=Unit) (fun c e=>((()),(()))) (fun c=>()) (fun{R} c a nx dn rt=>qbk c.1 c.2 a nx dn rt)],ce 18 tt [] [.tmp 4] qs2 (fun x=>x.1.1)⟩
theorem qxk:CtxM Tryz.prog qxm:=iu fits mixed (mC qio m0)
theorem q8f:ax Tryz.prog qxm 0 (lc 0 Tryz.f58 37):=lp rfl qxk .z s0 (fun c a=>((c.1,c.2,a,()),(()))) (fun y=>((),()))
abbrev qxl:Mdl:=(ay (.cons (.d false qT1) (.cons (.d false qT1) .nil)) [] [] 1 qs2 (B:=Bool) (fun b=>((b,()),(()))) (fun a=>qes a.1.1 a.1.2.1))
theorem q4u:MdlOK Tryz.prog 58 qxl:=iq Tryz.func58 rfl qxk (.two .z (.two (.two .z (.s 0)) .z)) (sC q8f s0)
def qha:Shp:=⟨[qf4],[]⟩
abbrev qcr:Ctx (Bool):=⟨81,tt,false,false,[],ia [(54,y7),(55,qs0),(56,qmo),(57,qin),(58,qxl)],io [ar _ 81 [] qsw (C:=(qL1×qL1×Int×(List af)×Int×Int)) (S:=Int) (fun x=>((x.1.2.1,x.1.2.2.1,x.2.1.1,x.2.1.2.1,x.2.1.2.2.1,(pe3 x.2.1)),(pe3 x.1))) qsv (CE:=(qL1×qL1×Int×(List af)×Int×Int)) (E:=Unit) (fun c e=>(((),c.1,c.2.1,()),((c.2.2.1,(pe3 c),(pe4 c),(pf5 c),()),()))) (fun c=>(c.1,c.2.1,c.2.2.1,(pe3 c),(pe4 c),(pf5 c))) (fun{R} c a nx dn rt=>np c.1 c.2.1 c.2.2.1 (pe3 c) (pe4 c) (pf5 c) a nx dn rt),ar _ 81 [] qsy (C:=(qL1×qL1×Int×(List af)×Int×Int)) (S:=Int) (fun x=>((x.1.2.1,x.1.2.2.1,x.2.1.1,x.2.1.2.1,x.2.1.2.2.1,(pe3 x.2.1)),(pe3 x.1))) qsx (CE:=Unit) (E:=Unit) (fun c e=>((()),(()))) (fun c=>()) (fun{R} c a nx dn rt=>rh c.1 c.2.1 c.2.2.1 (pe3 c) (pe4 c) (pf5 c) a nx dn rt)],ce 81 tt [] [.tmp 2] qha (fun x=>x.1.1)⟩
theorem qcp:CtxM Tryz.prog qcr:=iu fits mixed (mC y8 (mC q2j (mC qv0 (mC qio (mC q4u m0)))))
theorem qv2:ax Tryz.prog qcr 1 (lc 2 Tryz.f25 607):=lp rfl qcp .z s0 (fun c a=>(((),c.1,c.2.1,a,()),((c.2.2.1,(pe3 c),(pe4 c),(pf5 c),()),()))) (fun y=>((),()))
theorem qv1:ax Tryz.prog qcr 0 (lc 0 Tryz.f25 303):=lp rfl qcp .z s0 (fun c a=>(((),c.1,c.2.1,a,()),((c.2.2.1,(pe3 c),(pe4 c),(pf5 c),()),()))) (fun y=>((y.1.2.1,y.1.2.2.1,y.2.1.1,y.2.1.2.1,y.2.1.2.2.1,(pe3 y.2.1)),()))
abbrev qcq:Mdl:=(ay (.cons (.d false a7.ty) .nil) [] [] 1 qha (B:=Bool) (fun b=>((b,()),(()))) (fun a=>jw a.1.1))
theorem qfv:MdlOK Tryz.prog 25 qcq:=iq Tryz.func25 rfl qcp (.two .z (.two .z (.two .z (.two (.d [0,1,0,4,15,31] [] []) (.two (.two .z (.s 0)) (.two (.two .z (.s 1)) .z)))))) (sC qv1 (sC qv2 s0))
def qxe:Shp:=⟨[j0b],[]⟩
abbrev jc2:Ctx (qL1):=⟨13,tt,false,false,[],ia [],io [],ce 13 tt [] [.tmp 4] qxe (fun x=>x.1.1)⟩
theorem jc1:CtxM Tryz.prog jc2:=iu fits mixed m0
abbrev qip:Mdl:=(ay (.cons (.d false a7.ty) (.cons (.d false qT0) .nil)) [] [] 1 qxe (B:=qL1) (fun b=>((b,()),(()))) (fun a=>qds a.1.1 a.1.2.1))
theorem qiq:MdlOK Tryz.prog 60 qip:=iq Tryz.func60 rfl jc1 .z s0
def qj0:Shp:=⟨[qf4],[]⟩
abbrev qmm:Ctx (Bool):=⟨29,tt,false,false,[],ia [],io [ar _ 29 [] qvx (C:=qL1) (S:=Int) (fun x=>(x.1.1,x.1.2.1)) qvw (CE:=Unit) (E:=Unit) (fun c e=>((()),(()))) (fun c=>()) (fun{R} c a nx dn rt=>tp c a nx dn rt)],ce 29 tt [] [.tmp 4] qj0 (fun x=>x.1.1)⟩
theorem qml:CtxM Tryz.prog qmm:=iu fits mixed m0
theorem qyw:ax Tryz.prog qmm 0 (lc 0 Tryz.f70 75):=lp rfl qml .z s0 (fun c a=>((c,a,()),(()))) (fun y=>((),()))
abbrev y4:Mdl:=(ay (.cons (.d false a7.ty) (.cons (.d false qT1) .nil)) [] [] 1 qj0 (B:=Bool) (fun b=>((b,()),(()))) (fun a=>ie a.1.1 a.1.2.1))
theorem qa0:MdlOK Tryz.prog 70 y4:=iq Tryz.func70 rfl qml (.two .z (.two .z (.two (.two .z (.s 0)) .z))) (sC qyw s0)
def qxb:Shp:=⟨[qf4],[]⟩
abbrev q14:Ctx (Bool):=⟨32,tt,false,false,[],ia [],io [ar _ 32 [] q76 (C:=(qL1×Int×Int×(List af)×Int×Int)) (S:=Int) (fun x=>((x.1.1,x.1.2.1,x.2.1.1,x.2.1.2.1,x.2.1.2.2.1,(pe3 x.2.1)),(pe3 x.1))) q75 (CE:=Unit) (E:=Unit) (fun c e=>((()),(()))) (fun c=>()) (fun{R} c a nx dn rt=>y3 c.1 c.2.1 c.2.2.1 (pe3 c) (pe4 c) (pf5 c) a nx dn rt)],ce 32 tt [] [.tmp 6] qxb (fun x=>x.1.1)⟩
theorem q13:CtxM Tryz.prog q14:=iu fits mixed m0
theorem ja6:ax Tryz.prog q14 0 (lc 0 Tryz.f74 37):=lp rfl q13 .z s0 (fun c a=>((c.1,c.2.1,(),a,()),((c.2.2.1,(pe3 c),(pe4 c),(pf5 c),()),()))) (fun y=>((),()))
abbrev qqf:Mdl:=(ay (.cons (.d false a7.ty) (.cons (.d false qT1) (.cons (.d false qT0) .nil))) [] [] 1 qxb (B:=Bool) (fun b=>((b,()),(()))) (fun a=>qdr a.1.1 a.1.2.1 a.1.2.2.1))
theorem qsn:MdlOK Tryz.prog 74 qqf:=iq Tryz.func74 rfl q13 (.two .z (.two (.two .z (.s 0)) .z)) (sC ja6 s0)
def qsq:Shp:=⟨[jw1,jgt],[qqy]⟩
abbrev qmk:Ctx ((Int×qL1)):=⟨112,tt,false,false,[],ia [(54,y7),(70,y4),(74,qqf)],io [ar _ 112 [] q4i (C:=(Int×Int×(List af)×Int×Int)) (S:=(Int×qL1)) (fun x=>((x.1.1,x.2.1.1,x.2.1.2.1,x.2.1.2.2.1,(pe3 x.2.1)),((pe3 x.1),x.2.2.1))) q4h (CE:=(Int×Int×(List af)×Int×Int)) (E:=qL1) (fun c e=>((c.1,(),(),()),((c.2.1,c.2.2.1,(pe3 c),(pf4 c),()),e,()))) (fun c=>(c.1,c.2.1,c.2.2.1,(pe3 c),(pf4 c))) (fun{R} c a nx dn rt=>qbg c.1 c.2.1 c.2.2.1 (pe3 c) (pf4 c) a.1 a.2 nx dn rt),ar _ 112 [] q4k (C:=(Int×Int×(List af)×Int×Int)) (S:=(Int×qL1)) (fun x=>((x.1.1,x.2.1.1,x.2.1.2.1,x.2.1.2.2.1,(pe3 x.2.1)),((pe3 x.1),x.2.2.1))) q4j (CE:=(Int×(List af)×Int×Int)) (E:=qL1) (fun c e=>(((),(),()),((c.1,c.2.1,c.2.2.1,c.2.2.2,()),e,()))) (fun c=>(c.2.1,c.2.2.1,(pe3 c),(pf4 c))) (fun{R} c a nx dn rt=>qbh c.1 c.2.1 c.2.2.1 (pe3 c) (pf4 c) a.1 a.2 nx dn rt)],ce 112 tt [] [.tmp 6, .tmp 7] qsq (fun x=>(x.1.2.1,x.2.1))⟩
theorem qmj:CtxM Tryz.prog qmk:=iu fits mixed (mC y8 (mC qa0 (mC qsn m0)))
theorem q78:ax Tryz.prog qmk 1 (lc 2 Tryz.f71 1215):=lp rfl qmj (.two .z (.two (.one (.d [0,0,2,0,14,30,62,0,254,510,0,0,2048,0,14336,30720,63488,0,260096,522240,1047552,2096128,4193280,8388607,16777215] [24] [])) .z)) s0 (fun c a=>((c.1,(),(),a.1,()),((c.2.1,c.2.2.1,(pe3 c),(pf4 c),()),a.2,()))) (fun y=>((y.2.1.1,y.2.1.2.1,y.2.1.2.2.1,(pe3 y.2.1)),y.2.2.1))
theorem q77:ax Tryz.prog qmk 0 (lc 0 Tryz.f71 607):=lp rfl qmj (.two .z (.two (.one (.d [0,0,2,0,14,30,62,0,254,510,0,0,2048,0,14336,30720,63488,0,260096,522240,1047552,2096128,4193280,8388607,16777215] [24] [])) .z)) s0 (fun c a=>((c.1,(),(),a.1,()),((c.2.1,c.2.2.1,(pe3 c),(pf4 c),()),a.2,()))) (fun y=>((y.1.1,y.2.1.1,y.2.1.2.1,y.2.1.2.2.1,(pe3 y.2.1)),y.2.2.1))
abbrev xx:Mdl:=(ay (.cons (.d false a7.ty) (.cons (.d false qT1) (.cons (.d false qT0) .nil))) [] [] 2 qsq (B:=(Int×qL1)) (fun b=>(((),b.1,()),(b.2,()))) (fun a=>gg a.1.1 a.1.2.1 a.1.2.2.1))
theorem vc:MdlOK Tryz.prog 71 xx:=iq Tryz.func71 rfl qmj (.two .z (.two .z (.two .z (.two .z (.two .z (.two (.two .z (.s 0)) (.two (.two .z (.s 1)) .z))))))) (sC q77 (sC q78 s0))
def qxg:Shp:=⟨[j0b,jgt,qx1],[]⟩
abbrev q19:Ctx ((qL1×Int×Int)):=⟨52,tt,false,false,[],ia [(54,y7),(70,y4),(71,xx)],io [ar _ 52 [] q8c (C:=(qL1×Int×(List af)×Int×Int)) (S:=(qL1×Int)) (fun x=>((x.1.1,x.2.1.1,x.2.1.2.1,x.2.1.2.2.1,(pe3 x.2.1)),(x.1.2.2.1,(pe3 x.1)))) q8b (CE:=qL1) (E:=qL1) (fun c e=>((c,e,()),(()))) (fun c=>c.1) (fun{R} c a nx dn rt=>y5 c.1 c.2.1 c.2.2.1 (pe3 c) (pf4 c) a.1 a.2 nx dn rt)],ce 52 tt [] [.tmp 6, .tmp 7, .tmp 8] qxg (fun x=>(x.1.1,x.1.2.1,x.1.2.2.1))⟩
theorem q17:CtxM Tryz.prog q19:=iu fits mixed (mC y8 (mC qa0 (mC vc m0)))
theorem ja8:ax Tryz.prog q19 0 (lc 0 Tryz.f59 303):=lp rfl q17 (.two .z (.two (.one (.two (.d [0,0,0,0,12,28,63,127,255,255,511,2047] [] []) .z)) .z)) s0 (fun c a=>((c.1,(),a.1,a.2,()),((c.2.1,c.2.2.1,(pe3 c),(pf4 c),()),()))) (fun y=>(y.1.1,y.1.2.1))
abbrev q18:Mdl:=(ay (.cons (.d false a7.ty) (.cons (.d false qT1) (.cons (.d false qT1) .nil))) [] [] 3 qxg (B:=(qL1×Int×Int)) (fun b=>((b.1,b.2.1,b.2.2,()),(()))) (fun a=>qni a.1.1 a.1.2.1 a.1.2.2.1))
theorem q8d:MdlOK Tryz.prog 59 q18:=iq Tryz.func59 rfl q17 (.two .z (.two .z (.two .z (.two .z (.two (.two .z (.s 0)) .z))))) (sC ja8 s0)
def qsu:Shp:=⟨[jz5,jgt],[jgs]⟩
abbrev qxj:Ctx ((Int×(List ByteArray))):=⟨58,tt,false,false,[],ia [(54,y7)],io [ar _ 58 [] q4n (C:=(qL1×Int×(List af)×Int×Int)) (S:=(Int×(List ByteArray))) (fun x=>((x.1.1,x.2.1.1,x.2.1.2.1,x.2.1.2.2.1,(pe3 x.2.1)),((pe3 x.1),x.2.2.1))) q4m (CE:=Unit) (E:=(List ByteArray)) (fun c e=>(((),()),(e,()))) (fun c=>()) (fun{R} c a nx dn rt=>qbj c.1 c.2.1 c.2.2.1 (pe3 c) (pf4 c) a.1 a.2 nx dn rt)],ce 58 tt [] [.tmp 4, .tmp 5] qsu (fun x=>(x.1.2.1,x.2.1))⟩
theorem qxh:CtxM Tryz.prog qxj:=iu fits mixed (mC y8 m0)
theorem q8e:ax Tryz.prog qxj 0 (lc 0 Tryz.f61 303):=lp rfl qxh (.two .z (.two (.one (.two (.two (.d [0,0,3,7,15,31,63,63,255,511,63,1087,3135,8191,16383] [] []) .z) (.two (.d [0,1,0,0,12,28,63,127,255,511] [] []) (.two (.d [0,0,2,0,0,24,56,126,254,510,1022,2047,4095] [11,12] []) .z)))) .z)) s0 (fun c a=>((c.1,(),(),a.1,()),((c.2.1,c.2.2.1,(pe3 c),(pf4 c),()),a.2,()))) (fun y=>((),y.2.1))
abbrev qxi:Mdl:=(ay (.cons (.d false a7.ty) (.cons (.d false qT1) .nil)) [] [] 2 qsu (B:=(Int×(List ByteArray))) (fun b=>(((),b.1,()),(b.2,()))) (fun a=>qir a.1.1 a.1.2.1))
theorem q4o:MdlOK Tryz.prog 61 qxi:=iq Tryz.func61 rfl qxh (.two .z (.two .z (.two .z (.two .z (.two (.two .z (.s 0)) .z))))) (sC q8e s0)
def qj4:Shp:=⟨[j0b,j0y,jxb],[jgs]⟩
abbrev q2s:Ctx ((qL1×Bool×(List ByteArray))):=⟨33,tt,false,false,[],ia [(60,qip),(59,q18),(61,qxi)],io [],ce 33 tt [] [.tmp 4, .tmp 5, .tmp 6] qj4 (fun x=>(x.1.1,x.1.2.2.1,x.2.1))⟩
theorem q2r:CtxM Tryz.prog q2s:=iu fits mixed (mC qiq (mC q8d (mC q4o m0)))
abbrev za:Mdl:=(ay (.cons (.d false a7.ty) (.cons (.d false qT1) .nil)) [] [] 3 qj4 (B:=(qL1×Bool×(List ByteArray))) (fun b=>((b.1,(),b.2.1,()),(b.2.2,()))) (fun a=>og a.1.1 a.1.2.1))
theorem qa1:MdlOK Tryz.prog 26 za:=iq Tryz.func26 rfl q2r (.two .z (.two (.d [0,0,0,4,14,0,63,127,255,255,255,511,3071,8191] [] []) .z)) s0
def qla:Shp:=⟨[q83],[]⟩
abbrev q3q:Ctx (Int):=⟨35,tt,false,false,[],ia [(25,qcq),(26,za)],io [],ce 35 tt [] [.tmp 8] qla (fun x=>x.1.1)⟩
theorem q3p:CtxM Tryz.prog q3q:=iu fits mixed (mC qfv (mC qa1 m0))
abbrev qoj:Mdl:=(ay (.cons (.d false a7.ty) (.cons (.d false a7.ty) (.cons (.d false qT1) (.cons (.d false qT0) .nil)))) [] [] 1 qla (B:=Int) (fun b=>((b,()),(()))) (fun a=>yd a.1.1 a.1.2.1 a.1.2.2.1 (pe3 a.1)))
theorem qx2:MdlOK Tryz.prog 8 qoj:=iq Tryz.func8 rfl q3p .z s0
def qpc:Shp:=⟨[jz5],[qzk]⟩
abbrev qs9:Ctx ((List ab)):=⟨26,tt,false,false,[],ia [],io [ar _ 26 [] q2w (C:=(List ab)) (S:=(Int×(List ab))) (fun x=>(x.1.1,(x.1.2.2.1,x.2.1))) q2v (CE:=Unit) (E:=(List ab)) (fun c e=>(((),()),(e,()))) (fun c=>()) (fun{R} c a nx dn rt=>zc c a.1 a.2 nx dn rt)],ce 26 tt [] [.tmp 2] qpc (fun x=>x.2.1)⟩
theorem qs7:CtxM Tryz.prog qs9:=iu fits mixed m0
theorem q4v:ax Tryz.prog qs9 0 (lc 0 Tryz.f33 75):=lp rfl qs7 (.two .z (.two (.one (.d [0,0,0,6,14,30,0,0,192,448,960,2046,4094,8191,16383] [13,14] [])) .z)) s0 (fun c a=>((c,(),a.1,()),(a.2,()))) (fun y=>((),y.2.1))
abbrev qs8:Mdl:=(ay (.cons (.d true (.slice ab.ty)) .nil) [] [] 1 qpc (B:=(List ab)) (fun b=>(((),()),(b,()))) (fun a=>qfy a.1.1))
theorem q2x:MdlOK Tryz.prog 33 qs8:=iq Tryz.func33 rfl qs7 (.two .z (.two .z (.two (.two .z (.s 0)) .z))) (sC q4v s0)
def qjw:Shp:=⟨[q83],[]⟩
abbrev qmd:Ctx (Int):=⟨46,tt,false,false,[],ia [],io [ar _ 46 [] qvs (C:=((List ByteArray)×(List ByteArray))) (S:=Int) (fun x=>((x.1.1,x.1.2.1),x.1.2.2.1)) qvr (CE:=((List ByteArray)×(List ByteArray))) (E:=Unit) (fun c e=>((c.1,c.2,()),(()))) (fun c=>(c.1,c.2)) (fun{R} c a nx dn rt=>tn c.1 c.2 a nx dn rt)],ce 46 tt [] [.tmp 4] qjw (fun x=>x.1.1)⟩
theorem qmb:CtxM Tryz.prog qmd:=iu fits mixed m0
theorem qyq:ax Tryz.prog qmd 0 (lc 0 Tryz.f69 37):=lp rfl qmb (.two .z (.two (.one (.two (.two (.d [0,0,3,7,0,0,48,112,255] [] []) .z) (.two (.d [0,0,3,7,0,0,48,112,255] [] []) .z))) .z)) s0 (fun c a=>((c.1,c.2,a,()),(()))) (fun y=>((y.1.1,y.1.2.1),()))
abbrev qmc:Mdl:=(ay (.cons (.d false (.slice .str)) (.cons (.d false (.slice .str)) .nil)) [] [] 1 qjw (B:=Int) (fun b=>((b,()),(()))) (fun a=>qgc a.1.1 a.1.2.1))
theorem qvt:MdlOK Tryz.prog 69 qmc:=iq Tryz.func69 rfl qmb (.two .z (.two (.two .z (.s 0)) .z)) (sC qyq s0)
def qsm:Shp:=⟨[qf4],[]⟩
abbrev ja5:Ctx (Bool):=⟨9,tt,false,false,[],ia [(69,qmc)],io [],ce 9 tt [] [.tmp 4] qsm (fun x=>x.1.1)⟩
theorem ja4:CtxM Tryz.prog ja5:=iu fits mixed (mC qvt m0)
abbrev qw9:Mdl:=(ay (.cons (.d false (.slice .str)) (.cons (.d false (.slice .str)) .nil)) [] [] 1 qsm (B:=Bool) (fun b=>((b,()),(()))) (fun a=>qim a.1.1 a.1.2.1))
theorem q4e:MdlOK Tryz.prog 34 qw9:=iq Tryz.func34 rfl ja4 .z s0
def qjy:Shp:=⟨[qf4],[]⟩
abbrev qmi:Ctx (Bool):=⟨26,tt,false,false,[],ia [],io [ar _ 26 [] qvv (C:=(qL1×qL1)) (S:=Int) (fun x=>((x.1.1,x.1.2.1),x.1.2.2.1)) qvu (CE:=Unit) (E:=Unit) (fun c e=>((()),(()))) (fun c=>()) (fun{R} c a nx dn rt=>oz c.1 c.2 a nx dn rt)],ce 26 tt [] [.tmp 4] qjy (fun x=>x.1.1)⟩
theorem qmh:CtxM Tryz.prog qmi:=iu fits mixed m0
theorem qyv:ax Tryz.prog qmi 0 (lc 0 Tryz.f35 75):=lp rfl qmh (.two .z (.two (.one (.two (.d [0,0,3,7,0,0,48,112,255] [] []) .z)) .z)) s0 (fun c a=>((c.1,c.2,a,()),(()))) (fun y=>((),()))
abbrev o3:Mdl:=(ay (.cons (.d false qT1) (.cons (.d false qT1) .nil)) [] [] 1 qjy (B:=Bool) (fun b=>((b,()),(()))) (fun a=>jm a.1.1 a.1.2.1))
theorem o4:MdlOK Tryz.prog 35 o3:=iq Tryz.func35 rfl qmh (.two .z (.two .z (.two (.two .z (.s 0)) .z))) (sC qyv s0)
def qhc:Shp:=⟨[qf4],[]⟩
abbrev qj7:Ctx (Bool):=⟨32,tt,false,false,[],ia [(70,y4)],io [ar _ 32 [] qs5 (C:=((List ab)×Int×(List af)×Int×Int×Int×(List af)×Int×Int)) (S:=Int) (fun x=>((x.1.1,x.2.1.1,x.2.1.2.1,x.2.1.2.2.1,(pe3 x.2.1),x.2.2.1.1,x.2.2.1.2.1,x.2.2.1.2.2.1,(pe3 x.2.2.1)),(pe3 x.1))) qs4 (CE:=Unit) (E:=Unit) (fun c e=>((()),(()))) (fun c=>()) (fun{R} c a nx dn rt=>ri c.1 c.2.1 c.2.2.1 (pe3 c) (pe4 c) (pe5 c) (pe6 c) (pe7 c) (pf8 c) a nx dn rt)],ce 32 tt [] [.tmp 6] qhc (fun x=>x.1.1)⟩
theorem qj5:CtxM Tryz.prog qj7:=iu fits mixed (mC qa0 m0)
theorem qv3:ax Tryz.prog qj7 0 (lc 0 Tryz.f36 37):=lp rfl qj5 (.two .z (.two (.one (.two (.d [0,0,0,6,14,30,63,127,255,511,511,511,3583,7679,15871,32767,65535,131071] [] []) .z)) .z)) s0 (fun c a=>((c.1,(),(),a,()),((c.2.1,c.2.2.1,(pe3 c),(pe4 c),()),((pe5 c),(pe6 c),(pe7 c),(pf8 c),()),()))) (fun y=>((),()))
abbrev qj6:Mdl:=(ay (.cons (.d false a7.ty) (.cons (.d false a7.ty) (.cons (.d false (.slice ab.ty)) .nil))) [] [] 1 qhc (B:=Bool) (fun b=>((b,()),(()))) (fun a=>zb a.1.1 a.1.2.1 a.1.2.2.1))
theorem qs6:MdlOK Tryz.prog 36 qj6:=iq Tryz.func36 rfl qj5 (.two .z (.two (.two .z (.s 0)) .z)) (sC qv3 s0)
def q2u:Shp:=⟨[qf4],[]⟩
abbrev q53:Ctx (Bool):=⟨30,tt,false,false,[],ia [(35,o3)],io [ar _ 30 [] jba (C:=((List ab)×qL1×qL1)) (S:=Int) (fun x=>((x.1.1,x.1.2.1,x.1.2.2.1),(pe3 x.1))) ja9 (CE:=Unit) (E:=Unit) (fun c e=>((()),(()))) (fun c=>()) (fun{R} c a nx dn rt=>qfx c.1 c.2.1 c.2.2 a nx dn rt)],ce 30 tt [] [.tmp 6] q2u (fun x=>x.1.1)⟩
theorem q52:CtxM Tryz.prog q53:=iu fits mixed (mC o4 m0)
theorem jc3:ax Tryz.prog q53 0 (lc 0 Tryz.f37 37):=lp rfl q52 .z s0 (fun c a=>((c.1,c.2.1,c.2.2,a,()),(()))) (fun y=>((),()))
abbrev qnj:Mdl:=(ay (.cons (.d false (.slice ab.ty)) (.cons (.d false qT1) (.cons (.d false qT1) .nil))) [] [] 1 q2u (B:=Bool) (fun b=>((b,()),(()))) (fun a=>qew a.1.1 a.1.2.1 a.1.2.2.1))
theorem qmw:MdlOK Tryz.prog 37 qnj:=iq Tryz.func37 rfl q52 (.two .z (.two (.two .z (.s 0)) .z)) (sC jc3 s0)
def qph:Shp:=⟨[qf4],[]⟩
abbrev q8j:Ctx (Bool):=⟨11,tt,false,false,[],ia [(60,qip),(35,o3)],io [],ce 11 tt [] [.tmp 4] qph (fun x=>x.1.1)⟩
theorem q8i:CtxM Tryz.prog q8j:=iu fits mixed (mC qiq (mC o4 m0))
abbrev qtm:Mdl:=(ay (.cons (.d false a7.ty) (.cons (.d false qT1) .nil)) [] [] 1 qph (B:=Bool) (fun b=>((b,()),(()))) (fun a=>sk a.1.1 a.1.2.1))
theorem q25:MdlOK Tryz.prog 73 qtm:=iq Tryz.func73 rfl q8i .z s0
def qhf:Shp:=⟨[qf4],[]⟩
abbrev qct:Ctx (Bool):=⟨52,tt,false,false,[],ia [(37,qnj),(71,xx)],io [ar _ 52 [] qti (C:=((List ab)×ByteArray×qL1×qL1×Int×(List af)×Int×Int)) (S:=Int) (fun x=>((x.1.1,x.1.2.1,x.1.2.2.1,(pe3 x.1),x.2.1.1,x.2.1.2.1,x.2.1.2.2.1,(pe3 x.2.1)),(pe5 x.1))) qth (CE:=Unit) (E:=Unit) (fun c e=>((()),(()))) (fun c=>()) (fun{R} c a nx dn rt=>nq c.1 c.2.1 c.2.2.1 (pe3 c) (pe4 c) (pe5 c) (pe6 c) (pf7 c) a nx dn rt),u4 _ 52 [] qtk (A:=((List ab)×ByteArray×qL1×qL1×Int×(List af)×Int×Int)) (fun x=>(x.1.1,x.1.2.1,x.1.2.2.1,(pe3 x.1),x.2.1.1,x.2.1.2.1,x.2.1.2.2.1,(pe3 x.2.1))) qtj (CE:=Unit) (E:=Unit) (fun c e=>((()),(()))) (fun c=>()) (fun{R} c dn rt=>zf c.1 c.2.1 c.2.2.1 (pe3 c) (pe4 c) (pe5 c) (pe6 c) (pf7 c) dn rt)],ce 52 tt [] [.tmp 10] qhf (fun x=>x.1.1)⟩
theorem qcs:CtxM Tryz.prog qct:=iu fits mixed (mC qmw (mC vc m0))
theorem qv4:ax Tryz.prog qct 0 (lc 0 Tryz.f75 75):=lp rfl qcs .z s0 (fun c a=>((c.1,c.2.1,c.2.2.1,(pe3 c),(),a,()),(((pe4 c),(pe5 c),(pe6 c),(pf7 c),()),()))) (fun y=>((),()))
theorem qv5:ax Tryz.prog qct 1 (jc Tryz.f75 7):=jn rfl qcs (.two (.two .z (.s 0)) .z) (sC qv4 s0) (fun c=>((c.1,c.2.1,c.2.2.1,(pe3 c),(),()),(((pe4 c),(pe5 c),(pe6 c),(pf7 c),()),()))) (fun y=>((),()))
abbrev qj8:Mdl:=(ay (.cons (.d false a7.ty) (.cons (.d false (.slice ab.ty)) (.cons (.d false .str) (.cons (.d false qT1) (.cons (.d false qT1) .nil))))) [] [] 1 qhf (B:=Bool) (fun b=>((b,()),(()))) (fun a=>sj a.1.1 a.1.2.1 a.1.2.2.1 (pe3 a.1) (pe4 a.1)))
theorem qtl:MdlOK Tryz.prog 75 qj8:=iq Tryz.func75 rfl qcs (.two .z (.two .z (.s 1))) (sC qv5 s0)
def qpe:Shp:=⟨[qf4],[]⟩
abbrev qiu:Ctx (Bool):=⟨61,tt,false,false,[],ia [(73,qtm),(74,qqf),(71,xx),(75,qj8)],io [ar _ 61 [] q2z (C:=((List ab)×Int×(List af)×Int×Int×Int×(List af)×Int×Int×qL1×qL1)) (S:=Int) (fun x=>((x.1.1,x.2.1.1,x.2.1.2.1,x.2.1.2.2.1,(pe3 x.2.1),x.2.2.1.1,x.2.2.1.2.1,x.2.2.1.2.2.1,(pe3 x.2.2.1),(pe3 x).1,(pe3 x).2.1),(pe4 x.1))) q2y (CE:=Unit) (E:=Unit) (fun c e=>((()),(()))) (fun c=>()) (fun{R} c a nx dn rt=>si c.1 c.2.1 c.2.2.1 (pe3 c) (pe4 c) (pe5 c) (pe6 c) (pe7 c) (pe8 c) (pe9 c) (pf10 c) a nx dn rt),u4 _ 61 [] q21 (A:=((List ab)×Int×(List af)×Int×Int×Int×(List af)×Int×Int×qL1×qL1)) (fun x=>(x.1.1,x.2.1.1,x.2.1.2.1,x.2.1.2.2.1,(pe3 x.2.1),x.2.2.1.1,x.2.2.1.2.1,x.2.2.1.2.2.1,(pe3 x.2.2.1),(pe3 x).1,(pe3 x).2.1)) q20 (CE:=Unit) (E:=Unit) (fun c e=>((()),(()))) (fun c=>()) (fun{R} c dn rt=>qex c.1 c.2.1 c.2.2.1 (pe3 c) (pe4 c) (pe5 c) (pe6 c) (pe7 c) (pe8 c) (pe9 c) (pf10 c) dn rt)],ce 61 tt [] [.tmp 8] qpe (fun x=>x.1.1)⟩
theorem qis:CtxM Tryz.prog qiu:=iu fits mixed (mC q25 (mC qsn (mC vc (mC qtl m0))))
theorem q4w:ax Tryz.prog qiu 0 (lc 0 Tryz.f41 75):=lp rfl qis (.two .z (.two (.one (.two .z (.two .z (.two (.d [0,1,3,7,7,7,39,7,231,487,999,7,7,4103,16383,32767,65535] [] []) .z)))) .z)) s0 (fun c a=>((c.1,(),(),(),a,()),((c.2.1,c.2.2.1,(pe3 c),(pe4 c),()),((pe5 c),(pe6 c),(pe7 c),(pe8 c),()),((pe9 c),(pf10 c),()),()))) (fun y=>((),()))
theorem q4x:ax Tryz.prog qiu 1 (jc Tryz.f41 7):=jn rfl qis (.two (.two .z (.s 0)) .z) (sC q4w s0) (fun c=>((c.1,(),(),(),()),((c.2.1,c.2.2.1,(pe3 c),(pe4 c),()),((pe5 c),(pe6 c),(pe7 c),(pe8 c),()),((pe9 c),(pf10 c),()),()))) (fun y=>((),()))
abbrev qit:Mdl:=(ay (.cons (.d false a7.ty) (.cons (.d false a7.ty) (.cons (.d false (.slice ab.ty)) (.cons (.d false ab.ty) .nil)))) [] [] 1 qpe (B:=Bool) (fun b=>((b,()),(()))) (fun a=>sg a.1.1 a.1.2.1 a.1.2.2.1 (pe3 a.1)))
theorem qmx:MdlOK Tryz.prog 41 qit:=iq Tryz.func41 rfl qis (.two .z (.two .z (.s 1))) (sC q4x s0)
def qpg:Shp:=⟨[q83],[]⟩
abbrev qtg:Ctx (Int):=⟨24,tt,false,false,[],ia [(41,qit)],io [ar _ 24 [] q23 (C:=((List ab)×Int×(List af)×Int×Int×Int×(List af)×Int×Int)) (S:=Int) (fun x=>((x.1.1,x.2.1.1,x.2.1.2.1,x.2.1.2.2.1,(pe3 x.2.1),x.2.2.1.1,x.2.2.1.2.1,x.2.2.1.2.2.1,(pe3 x.2.2.1)),(pe3 x.1))) q22 (CE:=Unit) (E:=Unit) (fun c e=>((()),(()))) (fun c=>()) (fun{R} c a nx dn rt=>ze c.1 c.2.1 c.2.2.1 (pe3 c) (pe4 c) (pe5 c) (pe6 c) (pe7 c) (pf8 c) a nx dn rt)],ce 24 tt [] [.tmp 6] qpg (fun x=>x.1.1)⟩
theorem qte:CtxM Tryz.prog qtg:=iu fits mixed (mC qmx m0)
theorem q4y:ax Tryz.prog qtg 0 (lc 0 Tryz.f38 37):=lp rfl qte (.two .z (.two (.one (.two (.d [0,0,0,0,0,24,56,127,255] [] []) .z)) .z)) s0 (fun c a=>((c.1,(),(),a,()),((c.2.1,c.2.2.1,(pe3 c),(pe4 c),()),((pe5 c),(pe6 c),(pe7 c),(pf8 c),()),()))) (fun y=>((),()))
abbrev qtf:Mdl:=(ay (.cons (.d false a7.ty) (.cons (.d false a7.ty) (.cons (.d false (.slice ab.ty)) .nil))) [] [] 1 qpg (B:=Int) (fun b=>((b,()),(()))) (fun a=>qf1 a.1.1 a.1.2.1 a.1.2.2.1))
theorem q24:MdlOK Tryz.prog 38 qtf:=iq Tryz.func38 rfl qte (.two .z (.two (.two .z (.s 0)) .z)) (sC q4y s0)
def qo9:Shp:=⟨[qf4],[]⟩
abbrev q8h:Ctx (Bool):=⟨85,tt,false,false,[],ia [(25,qcq),(26,za),(33,qs8),(34,qw9),(35,o3),(36,qj6),(37,qnj),(38,qtf)],io [],ce 85 tt [] [.tmp 8] qo9 (fun x=>x.1.1)⟩
theorem q8g:CtxM Tryz.prog q8h:=iu fits mixed (mC qfv (mC qa1 (mC q2x (mC q4e (mC o4 (mC qs6 (mC qmw (mC q24 m0))))))))
abbrev qs3:Mdl:=(ay (.cons (.d false a7.ty) (.cons (.d false a7.ty) (.cons (.d false qT1) (.cons (.d true dg.ty) .nil)))) [] [] 1 qo9 (B:=Bool) (fun b=>((b,()),(()))) (fun a=>qfw a.1.1 a.1.2.1 a.1.2.2.1 (pe3 a.1)))
theorem q2k:MdlOK Tryz.prog 10 qs3:=iq Tryz.func10 rfl q8g .z s0
def qf0:Shp:=⟨[jw1,j0c],[qx0]⟩
abbrev o6:Ctx ((Bool×(List ae))):=⟨139,tt,false,true,[],ia [(60,qip),(71,xx),(35,o3)],io [ar _ 139 [] qqh (C:=((List ByteArray)×Int×Int×Int×Int×qL1×Int×(List af)×Int×Int×(List ae))) (S:=(Bool×Int)) (fun x=>((x.1.1,x.1.2.1,(pe4 x.1),(pe5 x.1),(pe6 x.1),(pe7 x.1),x.2.1.1,x.2.1.2.1,x.2.1.2.2.1,(pe3 x.2.1),x.2.2.1),((pe8 x.1),(pe9 x.1)))) qqg (CE:=((List ByteArray)×Int×Int×Int×Int×qL1×Int×(List af)×Int×Int×(List ae))) (E:=Bool) (fun c e=>((c.1,c.2.1,(),(),c.2.2.1,(pe3 c),(pe4 c),(pe5 c),e,()),(((pe6 c),(pe7 c),(pe8 c),(pe9 c),()),(pf10 c),()))) (fun c=>(c.1,c.2.1,c.2.2.1,(pe3 c),(pe4 c),(pe5 c),(pe6 c),(pe7 c),(pe8 c),(pe9 c),(pf10 c))) (fun{R} c a nx dn rt=>mn c.1 c.2.1 c.2.2.1 (pe3 c) (pe4 c) (pe5 c) (pe6 c) (pe7 c) (pe8 c) (pe9 c) (pf10 c) a.1 a.2 nx dn rt),u4 _ 139 [] qqn (A:=((List ByteArray)×Int×Int×Int×Int×Int×(List af)×Int×Int×(List ae))) (fun x=>(x.1.1,x.1.2.1,(pe4 x.1),(pe5 x.1),(pe6 x.1),x.2.1.1,x.2.1.2.1,x.2.1.2.2.1,(pe3 x.2.1),x.2.2.1)) qqm (CE:=((List ByteArray)×Int×Int×Int×Int×(List af)×Int×Int)) (E:=(List ae)) (fun c e=>((c.1,c.2.1,(),(),c.2.2.1,(pe3 c),()),(((pe4 c),(pe5 c),(pe6 c),(pf7 c),()),e,()))) (fun c=>(c.1,c.2.1,c.2.2.1,(pe3 c),(pe5 c),(pe6 c),(pe7 c),(pe8 c))) (fun{R} c dn rt=>wy c.1 c.2.1 c.2.2.1 (pe3 c) (pe4 c) (pe5 c) (pe6 c) (pe7 c) (pe8 c) (pf9 c) dn rt),ar _ 139 [] qqj (C:=((List ByteArray)×Int×Int×Int×(List af)×Int×Int)) (S:=(Int×(List ae))) (fun x=>((x.1.1,x.1.2.1,(pe4 x.1),x.2.1.1,x.2.1.2.1,x.2.1.2.2.1,(pe3 x.2.1)),((pe5 x.1),x.2.2.1))) qqi (CE:=((List ByteArray)×Int×Int×Int×(List af)×Int×Int)) (E:=(List ae)) (fun c e=>((c.1,c.2.1,(),(),c.2.2.1,()),(((pe3 c),(pe4 c),(pe5 c),(pf6 c),()),e,()))) (fun c=>(c.1,c.2.1,c.2.2.1,(pe3 c),(pe4 c),(pe5 c),(pf6 c))) (fun{R} c a nx dn rt=>gh c.1 c.2.1 c.2.2.1 (pe3 c) (pe4 c) (pe5 c) (pf6 c) a.1 a.2 nx dn rt),ar _ 139 [] qql (C:=((List ByteArray)×Int×Int×(List af)×Int×Int)) (S:=(Int×(List ae))) (fun x=>((x.1.1,x.1.2.1,x.2.1.1,x.2.1.2.1,x.2.1.2.2.1,(pe3 x.2.1)),((pe4 x.1),x.2.2.1))) qqk (CE:=Int) (E:=(List ae)) (fun c e=>((c,(),()),(e,()))) (fun c=>c.2.1) (fun{R} c a nx dn rt=>jj c.1 c.2.1 c.2.2.1 (pe3 c) (pe4 c) (pf5 c) a.1 a.2 nx dn rt)],ce 139 tt [] [.tmp 6, .tmp 7] qf0 (fun x=>(x.1.2.1,x.2.1))⟩
theorem o5:CtxM Tryz.prog o6:=iu fits mixed (mC qiq (mC vc (mC o4 m0)))
theorem qta:ax Tryz.prog o6 0 (lc 4 Tryz.f39 9933387):=lp rfl o5 .z s0 (fun c a=>((c.1,c.2.1,(),(),c.2.2.1,(pe3 c),(pe4 c),(pe5 c),a.1,a.2,()),(((pe6 c),(pe7 c),(pe8 c),(pe9 c),()),(pf10 c),()))) (fun y=>((y.1.1,y.1.2.1,(pe4 y.1),(pe5 y.1),(pe6 y.1),(pe7 y.1),y.2.1.1,y.2.1.2.1,y.2.1.2.2.1,(pe3 y.2.1),y.2.2.1),(pe8 y.1)))
theorem qtb:ax Tryz.prog o6 1 (jc Tryz.f39 234059):=jn rfl o5 (.two (.d [0,0,0,6,14,30,0,127,255,511,511,1023,4095] [] []) (.two .z (.two (.two .z (.s 0)) .z))) (sC qta s0) (fun c=>((c.1,c.2.1,(),(),c.2.2.1,(pe3 c),(pe4 c),()),(((pe5 c),(pe6 c),(pe7 c),(pe8 c),()),(pf9 c),()))) (fun y=>((y.1.1,y.1.2.1,(pe4 y.1),(pe5 y.1),y.2.1.1,y.2.1.2.1,y.2.1.2.2.1,(pe3 y.2.1)),y.2.2.1))
theorem qtc:ax Tryz.prog o6 2 (lc 2 Tryz.f39 4683):=lp rfl o5 (.two .z (.two (.one (.two .z (.two (.two .z (.two (.two (.two (.d [0,0,2,7,15,31,31,127,255,31,543,31,3615,7711,15903,32767,65535] [] []) .z) .z) .z)) (.s 1)))) .z)) (sC qtb s0) (fun c a=>((c.1,c.2.1,(),(),c.2.2.1,a.1,()),(((pe3 c),(pe4 c),(pe5 c),(pf6 c),()),a.2,()))) (fun y=>((y.1.1,y.1.2.1,(pe4 y.1),y.2.1.1,y.2.1.2.1,y.2.1.2.2.1,(pe3 y.2.1)),y.2.2.1))
theorem qtd:ax Tryz.prog o6 3 (lc 0 Tryz.f39 75):=lp rfl o5 (.two .z (.two (.one (.two .z (.s 2))) .z)) (sC qtc s0) (fun c a=>((c.1,c.2.1,(),(),a.1,()),((c.2.2.1,(pe3 c),(pe4 c),(pf5 c),()),a.2,()))) (fun y=>(y.1.1,y.2.1))
abbrev qhd:Mdl:=(ay (.cons (.d false a7.ty) (.cons (.d false (.slice .str)) (.cons (.d false qT0) .nil))) [] [] 2 qf0 (B:=(Bool×(List ae))) (fun b=>(((),b.1,()),(b.2,()))) (fun a=>wm a.1.1 a.1.2.1 a.1.2.2.1))
theorem qqo:MdlOK Tryz.prog 39 qhd:=iq Tryz.func39 rfl o5 (.two .z (.two .z (.two (.two .z (.s 3)) .z))) (sC qtd s0)
def qxo:Shp:=⟨[qf4],[]⟩
abbrev q28:Ctx (Bool):=⟨18,tt,false,false,[],ia [(35,o3)],io [ar _ 18 [] q8l (C:=(qL2×qL1)) (S:=Int) (fun x=>((x.1.1,x.1.2.1),x.1.2.2.1)) q8k (CE:=Unit) (E:=Unit) (fun c e=>((()),(()))) (fun c=>()) (fun{R} c a nx dn rt=>qdk c.1 c.2 a nx dn rt)],ce 18 tt [] [.tmp 4] qxo (fun x=>x.1.1)⟩
theorem q26:CtxM Tryz.prog q28:=iu fits mixed (mC o4 m0)
theorem jbb:ax Tryz.prog q28 0 (lc 0 Tryz.f72 37):=lp rfl q26 .z s0 (fun c a=>((c.1,c.2,a,()),(()))) (fun y=>((),()))
abbrev q27:Mdl:=(ay (.cons (.d false qT2) (.cons (.d false qT1) .nil)) [] [] 1 qxo (B:=Bool) (fun b=>((b,()),(()))) (fun a=>qhg a.1.1 a.1.2.1))
theorem q8m:MdlOK Tryz.prog 72 q27:=iq Tryz.func72 rfl q26 (.two .z (.two (.two .z (.s 0)) .z)) (sC jbb s0)
def qkc:Shp:=⟨[(0, .nl false (.own 1)),j0c],[qe6,qe6]⟩
abbrev zh:Ctx ((Bool×qL2×qL2)):=⟨80,tt,false,false,[true],ia [(72,q27),(71,xx)],io [ar _ 80 [true] qv7 (C:=(Int×qL2×Int×(List af)×Int×Int)) (S:=(Int×qL2)) (fun x=>((x.1.2.1,x.2.1,x.2.2.1.1,x.2.2.1.2.1,x.2.2.1.2.2.1,(pe3 x.2.2.1)),((pe4 x.1),(pe3 x)))) qv6 (CE:=(Int×qL2×Int×(List af)×Int×Int)) (E:=qL2) (fun c e=>((c.1,(),(),()),(c.2.1,(c.2.2.1,(pe3 c),(pe4 c),(pf5 c),()),e,()))) (fun c=>(c.1,c.2.1,c.2.2.1,(pe3 c),(pe4 c),(pf5 c))) (fun{R} c a nx dn rt=>tv c.1 c.2.1 c.2.2.1 (pe3 c) (pe4 c) (pf5 c) a.1 a.2 nx dn rt),ar _ 80 [true] qv9 (C:=(Int×Int×qL2×Int×(List af)×Int×Int)) (S:=(Int×qL2)) (fun x=>((x.1.1,(pe3 x.1),x.2.1,x.2.2.1.1,x.2.2.1.2.1,x.2.2.1.2.2.1,(pe3 x.2.2.1)),((pe4 x.1),(pe3 x)))) qv8 (CE:=(Int×Int×qL2×Int×(List af)×Int×Int)) (E:=qL2) (fun c e=>((c.1,(),(),c.2.1,()),(c.2.2.1,((pe3 c),(pe4 c),(pe5 c),(pf6 c),()),e,()))) (fun c=>(c.1,c.2.1,c.2.2.1,(pe3 c),(pe4 c),(pe5 c),(pf6 c))) (fun{R} c a nx dn rt=>tw c.1 c.2.1 c.2.2.1 (pe3 c) (pe4 c) (pe5 c) (pf6 c) a.1 a.2 nx dn rt),ar _ 80 [true] qwb (C:=(Int×qL2×Int×(List af)×Int×Int)) (S:=(Int×qL2)) (fun x=>((x.1.1,x.2.1,x.2.2.1.1,x.2.2.1.2.1,x.2.2.1.2.2.1,(pe3 x.2.2.1)),((pe3 x.1),(pe3 x)))) qwa (CE:=(Int×qL2)) (E:=qL2) (fun c e=>((c.1,(),()),(c.2,e,()))) (fun c=>(c.1,c.2.1)) (fun{R} c a nx dn rt=>o7 c.1 c.2.1 c.2.2.1 (pe3 c) (pe4 c) (pf5 c) a.1 a.2 nx dn rt)],ce 80 tt [true] [.tmp 6, .tmp 7] qkc (fun x=>(x.1.2.1,x.2.1,x.2.2.1))⟩
theorem zg:CtxM Tryz.prog zh:=iu fits mixed (mC q8m (mC vc m0))
theorem qzf:ax Tryz.prog zh 1 (lc 4 Tryz.f40 9367):=lp rfl zg (.two .z (.two (.one (.two (.d [0,0,0,6,14,0,63,127,255,255,511,2047] [] []) .z)) .z)) s0 (fun c a=>((c.1,(),(),c.2.1,a.1,()),(c.2.2.1,((pe3 c),(pe4 c),(pe5 c),(pf6 c),()),a.2,()))) (fun y=>((y.1.1,(pe3 y.1),y.2.1,y.2.2.1.1,y.2.2.1.2.1,y.2.2.1.2.2.1,(pe3 y.2.2.1)),(pe3 y)))
theorem qzg:ax Tryz.prog zh 2 (lc 2 Tryz.f40 151):=lp rfl zg (.two .z (.two (.one (.two .z (.s 1))) .z)) (sC qzf s0) (fun c a=>((c.1,(),(),a.1,()),(c.2.1,(c.2.2.1,(pe3 c),(pe4 c),(pf5 c),()),a.2,()))) (fun y=>((y.1.1,y.2.1),y.2.2.1))
theorem qze:ax Tryz.prog zh 0 (lc 0 Tryz.f40 75):=lp rfl zg .z s0 (fun c a=>(((),c.1,(),(),a.1,()),(c.2.1,(c.2.2.1,(pe3 c),(pe4 c),(pf5 c),()),a.2,()))) (fun y=>((y.1.1,y.2.1,y.2.2.1.1,y.2.2.1.2.1,y.2.2.1.2.2.1,(pe3 y.2.2.1)),(pe3 y)))
abbrev qmy:Mdl:=(ay (.cons (.d false a7.ty) (.cons (.own 0) (.cons (.d false qT0) .nil))) [qe6] [true] 2 qkc (B:=(Bool×qL2×qL2)) (fun b=>(((),b.1,()),(b.2.1,b.2.2,()))) (fun a=>ve a.1.1 a.1.2.2.1 a.2.1))
theorem qwc:MdlOK Tryz.prog 40 qmy:=iq Tryz.func40 rfl zg (.two .z (.two .z (.two (.two .z (.s 0)) (.two (.two .z (.s 2)) .z)))) (sC qze (sC qzg s0))
def qmv:Shp:=⟨[qf4,j0c],[]⟩
abbrev oe:Ctx ((Bool×Bool)):=⟨155,tt,false,false,[],ia [(26,za),(39,qhd),(40,qmy),(41,qit),(37,qnj)],io [ar _ 155 [] qy2 (C:=(Int×qL1×(List ByteArray)×(List ae)×Int×(List af)×Int×Int×Int×(List af)×Int×Int)) (S:=(Int×qL2)) (fun x=>((x.1.1,(pe3 x.1),(pe4 x.1),(pe5 x.1),x.2.1.1,x.2.1.2.1,x.2.1.2.2.1,(pe3 x.2.1),x.2.2.1.1,x.2.2.1.2.1,x.2.2.1.2.2.1,(pe3 x.2.2.1)),((pe7 x.1),(pe3 x)))) qy1 (CE:=(Int×qL1×Int×(List af)×Int×Int×Int×(List af)×Int×Int)) (E:=qL2) (fun c e=>((c.1,(),(),c.2.1,(),()),((c.2.2.1,(pe3 c),(pe4 c),(pe5 c),()),((pe6 c),(pe7 c),(pe8 c),(pf9 c),()),e,()))) (fun c=>(c.1,c.2.1,(pe4 c),(pe5 c),(pe6 c),(pe7 c),(pe8 c),(pe9 c),(pe10 c),(pf11 c))) (fun{R} c a nx dn rt=>we c.1 c.2.1 c.2.2.1 (pe3 c) (pe4 c) (pe5 c) (pe6 c) (pe7 c) (pe8 c) (pe9 c) (pe10 c) (pf11 c) a.1 a.2 nx dn rt),ar _ 155 [] qy4 (C:=(qL1×qL2×qL2×qL2×Int×Int×(List af)×Int×Int×Int×(List af)×Int×Int)) (S:=(Int×(List ab))) (fun x=>((x.1.2.2.1,(pe3 x.1),(pe4 x.1),(pe5 x.1),(pe7 x.1),x.2.1.1,x.2.1.2.1,x.2.1.2.2.1,(pe3 x.2.1),x.2.2.1.1,x.2.2.1.2.1,x.2.2.1.2.2.1,(pe3 x.2.2.1)),((pe8 x.1),(pe3 x)))) qy3 (CE:=(qL1×qL2×qL2×qL2×Int×Int×(List af)×Int×Int×Int×(List af)×Int×Int)) (E:=(List ab)) (fun c e=>(((),(),c.1,c.2.1,c.2.2.1,(pe3 c),(),(pe4 c),()),(((pe5 c),(pe6 c),(pe7 c),(pe8 c),()),((pe9 c),(pe10 c),(pe11 c),(pf12 c),()),e,()))) (fun c=>(c.1,c.2.1,c.2.2.1,(pe3 c),(pe4 c),(pe5 c),(pe6 c),(pe7 c),(pe8 c),(pe9 c),(pe10 c),(pe11 c),(pf12 c))) (fun{R} c a nx dn rt=>wg c.1 c.2.1 c.2.2.1 (pe3 c) (pe4 c) (pe5 c) (pe6 c) (pe7 c) (pe8 c) (pe9 c) (pe10 c) (pe11 c) (pf12 c) a.1 a.2 nx dn rt),ar _ 155 [] qy6 (C:=(qL1×qL2×qL2×qL2×Int×(List af)×Int×Int×Int×(List af)×Int×Int)) (S:=(Int×(List ab))) (fun x=>((x.1.2.2.1,(pe3 x.1),(pe4 x.1),(pe5 x.1),x.2.1.1,x.2.1.2.1,x.2.1.2.2.1,(pe3 x.2.1),x.2.2.1.1,x.2.2.1.2.1,x.2.2.1.2.2.1,(pe3 x.2.2.1)),((pe7 x.1),(pe3 x)))) qy5 (CE:=(qL1×qL2×Int×(List af)×Int×Int×Int×(List af)×Int×Int)) (E:=(List ab)) (fun c e=>(((),(),c.1,c.2.1,(),()),((c.2.2.1,(pe3 c),(pe4 c),(pe5 c),()),((pe6 c),(pe7 c),(pe8 c),(pf9 c),()),e,()))) (fun c=>(c.1,c.2.1,(pe4 c),(pe5 c),(pe6 c),(pe7 c),(pe8 c),(pe9 c),(pe10 c),(pf11 c))) (fun{R} c a nx dn rt=>wh c.1 c.2.1 c.2.2.1 (pe3 c) (pe4 c) (pe5 c) (pe6 c) (pe7 c) (pe8 c) (pe9 c) (pe10 c) (pf11 c) a.1 a.2 nx dn rt),ar _ 155 [] qy8 (C:=(qL1×qL2×(List ab)×Int×(List af)×Int×Int×Int×(List af)×Int×Int)) (S:=(Int×(List ab))) (fun x=>((x.1.2.2.1,(pe3 x.1),(pe4 x.1),x.2.1.1,x.2.1.2.1,x.2.1.2.2.1,(pe3 x.2.1),x.2.2.1.1,x.2.2.1.2.1,x.2.2.1.2.2.1,(pe3 x.2.2.1)),((pe6 x.1),(pe3 x)))) qy7 (CE:=(qL1×qL2×(List ab)×Int×(List af)×Int×Int×Int×(List af)×Int×Int)) (E:=(List ab)) (fun c e=>(((),(),c.1,c.2.1,c.2.2.1,(),()),(((pe3 c),(pe4 c),(pe5 c),(pe6 c),()),((pe7 c),(pe8 c),(pe9 c),(pf10 c),()),e,()))) (fun c=>(c.1,c.2.1,c.2.2.1,(pe3 c),(pe4 c),(pe5 c),(pe6 c),(pe7 c),(pe8 c),(pe9 c),(pf10 c))) (fun{R} c a nx dn rt=>wi c.1 c.2.1 c.2.2.1 (pe3 c) (pe4 c) (pe5 c) (pe6 c) (pe7 c) (pe8 c) (pe9 c) (pf10 c) a.1 a.2 nx dn rt),ar _ 155 [] qza (C:=(qL1×qL2×Int×(List af)×Int×Int×Int×(List af)×Int×Int)) (S:=(List ab)) (fun x=>((x.1.2.2.1,(pe3 x.1),x.2.1.1,x.2.1.2.1,x.2.1.2.2.1,(pe3 x.2.1),x.2.2.1.1,x.2.2.1.2.1,x.2.2.1.2.2.1,(pe3 x.2.2.1)),(pe4 x.1))) qy9 (CE:=(qL1×qL2)) (E:=(List ab)) (fun c e=>((c.1,c.2,e,()),(()))) (fun c=>(c.1,c.2.1)) (fun{R} c a nx dn rt=>wj c.1 c.2.1 c.2.2.1 (pe3 c) (pe4 c) (pe5 c) (pe6 c) (pe7 c) (pe8 c) (pf9 c) a nx dn rt),ar _ 155 [] qzc (C:=(qL1×qL2×(List ab))) (S:=Int) (fun x=>((x.1.1,x.1.2.1,x.1.2.2.1),(pe3 x.1))) qzb (CE:=Unit) (E:=Unit) (fun c e=>((()),(()))) (fun c=>()) (fun{R} c a nx dn rt=>wl c.1 c.2.1 c.2.2 a nx dn rt)],ce 155 tt [] [.tmp 8, .tmp 9] qmv (fun x=>(x.1.1,x.1.2.1))⟩
theorem od:CtxM Tryz.prog oe:=iu fits mixed (mC qa1 (mC qqo (mC qwc (mC qmx (mC qmw m0)))))
theorem q2m:ax Tryz.prog oe 1 (lc 4 Tryz.f11 1199103):=lp rfl od (.two .z (.two (.one (.d [0,0,0,6,14,0,0,96,224,510,1022,2047,4095] [11,12] [])) .z)) s0 (fun c a=>(((),(),c.1,c.2.1,c.2.2.1,(pe3 c),(),(pe4 c),a.1,()),(((pe5 c),(pe6 c),(pe7 c),(pe8 c),()),((pe9 c),(pe10 c),(pe11 c),(pf12 c),()),a.2,()))) (fun y=>((y.1.2.2.1,(pe3 y.1),(pe4 y.1),(pe5 y.1),(pe7 y.1),y.2.1.1,y.2.1.2.1,y.2.1.2.2.1,(pe3 y.2.1),y.2.2.1.1,y.2.2.1.2.1,y.2.2.1.2.2.1,(pe3 y.2.2.1)),(pe3 y)))
theorem q2o:ax Tryz.prog oe 3 (lc 8 Tryz.f11 1214463):=lp rfl od (.two .z (.two (.one (.two (.d [0,0,0,0,0,24,56,127] [] []) .z)) .z)) s0 (fun c a=>(((),(),c.1,c.2.1,c.2.2.1,(),a.1,()),(((pe3 c),(pe4 c),(pe5 c),(pe6 c),()),((pe7 c),(pe8 c),(pe9 c),(pf10 c),()),a.2,()))) (fun y=>((y.1.2.2.1,(pe3 y.1),(pe4 y.1),y.2.1.1,y.2.1.2.1,y.2.1.2.2.1,(pe3 y.2.1),y.2.2.1.1,y.2.2.1.2.1,y.2.2.1.2.2.1,(pe3 y.2.2.1)),(pe3 y)))
theorem q2q:ax Tryz.prog oe 5 (lc 10 Tryz.f11 77823):=lp rfl od .z s0 (fun c a=>((c.1,c.2.1,c.2.2,a,()),(()))) (fun y=>((),()))
theorem q2n:ax Tryz.prog oe 2 (lc 2 Tryz.f11 19455):=lp rfl od (.two .z (.two (.one (.two .z (.s 1))) .z)) (sC q2m s0) (fun c a=>(((),(),c.1,c.2.1,c.2.2.1,(pe3 c),(),a.1,()),(((pe4 c),(pe5 c),(pe6 c),(pe7 c),()),((pe8 c),(pe9 c),(pe10 c),(pf11 c),()),a.2,()))) (fun y=>((y.1.2.2.1,(pe3 y.1),y.2.1.1,y.2.1.2.1,y.2.1.2.2.1,(pe3 y.2.1),y.2.2.1.1,y.2.2.1.2.1,y.2.2.1.2.2.1,(pe3 y.2.2.1)),(pe3 y)))
theorem q2p:ax Tryz.prog oe 4 (lc 6 Tryz.f11 18431):=lp rfl od (.one (.two .z (.two (.two .z (.s 3)) .z))) (sC q2o s0) (fun c a=>(((),(),c.1,c.2.1,a,()),((c.2.2.1,(pe3 c),(pe4 c),(pe5 c),()),((pe6 c),(pe7 c),(pe8 c),(pf9 c),()),()))) (fun y=>((y.1.1,y.1.2.1),y.1.2.2.1))
theorem q2l:ax Tryz.prog oe 0 (lc 0 Tryz.f11 607):=lp rfl od .z s0 (fun c a=>((c.1,(),(),c.2.1,c.2.2.1,(pe3 c),(),a.1,()),(((pe4 c),(pe5 c),(pe6 c),(pe7 c),()),((pe8 c),(pe9 c),(pe10 c),(pf11 c),()),a.2,()))) (fun y=>((y.1.1,(pe3 y.1),y.2.1.1,y.2.1.2.1,y.2.1.2.2.1,(pe3 y.2.1),y.2.2.1.1,y.2.2.1.2.1,y.2.2.1.2.2.1,(pe3 y.2.2.1)),(pe3 y)))
abbrev qpa:Mdl:=(ay (.cons (.d false a7.ty) (.cons (.d false a7.ty) (.cons (.d false qT1) (.cons (.d false qT0) .nil)))) [] [] 2 qmv (B:=(Bool×Bool)) (fun b=>((b.1,b.2,()),(()))) (fun a=>lg a.1.1 a.1.2.1 a.1.2.2.1 (pe3 a.1)))
theorem qzd:MdlOK Tryz.prog 11 qpa:=iq Tryz.func11 rfl od (.two .z (.two .z (.two .z (.two .z (.two .z (.two (.two .z (.s 0)) (.two .z (.two .z (.two .z (.two .z (.two (.two .z (.s 2)) (.two (.s 4) (.two (.two .z (.s 5)) .z))))))))))))) (sC q2l (sC q2n (sC q2p (sC q2q s0))))
def qbw:Shp:=⟨[qf4],[]⟩
abbrev um:Ctx (Bool):=⟨119,tt,false,false,[],ia [(4,qrn),(5,qro),(6,qwx),(7,qga),(8,qoj),(9,qd7),(10,qs3),(11,qpa)],io [u4 _ 119 [] qkm (A:=(qL1×Int×Int×Bool×Int×(List af)×Int×Int×Int×(List af)×Int×Int×qL1×qL1×(List ab))) (fun x=>(x.1.1,x.1.2.1,(pe5 x.1),(pe6 x.1),x.2.1.1,x.2.1.2.1,x.2.1.2.2.1,(pe3 x.2.1),x.2.2.1.1,x.2.2.1.2.1,x.2.2.1.2.2.1,(pe3 x.2.2.1),(pe3 x).1,(pe3 x).2.1,(pe3 x).2.2.1)) qkl (CE:=Unit) (E:=Unit) (fun c e=>((()),(()))) (fun c=>()) (fun{R} c dn rt=>jb c.1 c.2.1 c.2.2.1 (pe3 c) (pe4 c) (pe5 c) (pe6 c) (pe7 c) (pe8 c) (pe9 c) (pe10 c) (pe11 c) (pe12 c) (pe13 c) (pf14 c) dn rt),u4 _ 119 [] qko (A:=(qL1×Int×Int×(List af)×Int×Int×Int×(List af)×Int×Int)) (fun x=>(x.1.1,x.1.2.1,x.2.1.1,x.2.1.2.1,x.2.1.2.2.1,(pe3 x.2.1),x.2.2.1.1,x.2.2.1.2.1,x.2.2.1.2.2.1,(pe3 x.2.2.1))) qkn (CE:=Unit) (E:=Unit) (fun c e=>((()),(()))) (fun c=>()) (fun{R} c dn rt=>qw c.1 c.2.1 c.2.2.1 (pe3 c) (pe4 c) (pe5 c) (pe6 c) (pe7 c) (pe8 c) (pf9 c) dn rt)],ce 119 tt [] [.tmp 8] qbw (fun x=>x.1.1)⟩
theorem ul:CtxM Tryz.prog um:=iu fits mixed (mC q0s (mC q0v (mC q3u (mC qjc (mC qx2 (mC qgp (mC q2k (mC qzd m0))))))))
theorem qk7:ax Tryz.prog um 0 (jc Tryz.f3 63):=jn rfl ul .z s0 (fun c=>((c.1,c.2.1,(),(),(),c.2.2.1,(pe3 c),()),(((pe4 c),(pe5 c),(pe6 c),(pe7 c),()),((pe8 c),(pe9 c),(pe10 c),(pe11 c),()),((pe12 c),(pe13 c),(pf14 c),()),()))) (fun y=>((),()))
theorem qk8:ax Tryz.prog um 1 (jc Tryz.f3 15):=jn rfl ul (.two .z (.two .z (.s 0))) (sC qk7 s0) (fun c=>((c.1,c.2.1,(),(),()),((c.2.2.1,(pe3 c),(pe4 c),(pe5 c),()),((pe6 c),(pe7 c),(pe8 c),(pf9 c),()),()))) (fun y=>((),()))
abbrev qno:Mdl:=(ay (.cons (.d true a7.ty) (.cons (.d true a7.ty) (.cons (.d true qT1) (.cons (.d true qT0) .nil)))) [] [] 1 qbw (B:=Bool) (fun b=>((b,()),(()))) (fun a=>wu a.1.1 a.1.2.1 a.1.2.2.1 (pe3 a.1)))
theorem qkp:MdlOK Tryz.prog 3 qno:=iq Tryz.func3 rfl ul (.two .z (.two .z (.two .z (.s 1)))) (sC qk8 s0)
end
end Go.Proofs.YtdhfhpdadbopkaaGreat
