/-
  The functions compute what their models say. Made by program (mg3.py) out of the translation.
-/
import Derived.Test.YtmlfmeffjodhmaaZ6Md
import Derived.Test.YtmlfmeffjodhmaaZ6Tt
import Derived.Test.YtmlfmeffjodhmaaZ6Ky
set_option linter.all false
set_option maxRecDepth 100000
namespace Go.Proofs.Ytmlfmeffjodhmaa
open Go.K Go.M
abbrev pe3{A0 A1 A2 A3 A4:Type}(x:A0×A1×A2×A3×A4):A3:=x.2.2.2.1
abbrev pe4{A0 A1 A2 A3 A4 A5:Type}(x:A0×A1×A2×A3×A4×A5):A4:=x.2.2.2.2.1
abbrev pe5{A0 A1 A2 A3 A4 A5 A6:Type}(x:A0×A1×A2×A3×A4×A5×A6):A5:=x.2.2.2.2.2.1
abbrev pe6{A0 A1 A2 A3 A4 A5 A6 A7:Type}(x:A0×A1×A2×A3×A4×A5×A6×A7):A6:=x.2.2.2.2.2.2.1
abbrev pe7{A0 A1 A2 A3 A4 A5 A6 A7 A8:Type}(x:A0×A1×A2×A3×A4×A5×A6×A7×A8):A7:=x.2.2.2.2.2.2.2.1
abbrev pe8{A0 A1 A2 A3 A4 A5 A6 A7 A8 A9:Type}(x:A0×A1×A2×A3×A4×A5×A6×A7×A8×A9):A8:=x.2.2.2.2.2.2.2.2.1
abbrev pe9{A0 A1 A2 A3 A4 A5 A6 A7 A8 A9 A10:Type}(x:A0×A1×A2×A3×A4×A5×A6×A7×A8×A9×A10):A9:=x.2.2.2.2.2.2.2.2.2.1
abbrev pe10{A0 A1 A2 A3 A4 A5 A6 A7 A8 A9 A10 A11:Type}(x:A0×A1×A2×A3×A4×A5×A6×A7×A8×A9×A10×A11):A10:=x.2.2.2.2.2.2.2.2.2.2.1
abbrev pe11{A0 A1 A2 A3 A4 A5 A6 A7 A8 A9 A10 A11 A12:Type}(x:A0×A1×A2×A3×A4×A5×A6×A7×A8×A9×A10×A11×A12):A11:=x.2.2.2.2.2.2.2.2.2.2.2.1
abbrev pe12{A0 A1 A2 A3 A4 A5 A6 A7 A8 A9 A10 A11 A12 A13:Type}(x:A0×A1×A2×A3×A4×A5×A6×A7×A8×A9×A10×A11×A12×A13):A12:=x.2.2.2.2.2.2.2.2.2.2.2.2.1
abbrev pe13{A0 A1 A2 A3 A4 A5 A6 A7 A8 A9 A10 A11 A12 A13 A14:Type}(x:A0×A1×A2×A3×A4×A5×A6×A7×A8×A9×A10×A11×A12×A13×A14):A13:=x.2.2.2.2.2.2.2.2.2.2.2.2.2.1
abbrev pe14{A0 A1 A2 A3 A4 A5 A6 A7 A8 A9 A10 A11 A12 A13 A14 A15:Type}(x:A0×A1×A2×A3×A4×A5×A6×A7×A8×A9×A10×A11×A12×A13×A14×A15):A14:=x.2.2.2.2.2.2.2.2.2.2.2.2.2.2.1
abbrev pe15{A0 A1 A2 A3 A4 A5 A6 A7 A8 A9 A10 A11 A12 A13 A14 A15 A16:Type}(x:A0×A1×A2×A3×A4×A5×A6×A7×A8×A9×A10×A11×A12×A13×A14×A15×A16):A15:=x.2.2.2.2.2.2.2.2.2.2.2.2.2.2.2.1
abbrev pf4{A0 A1 A2 A3 A4:Type}(x:A0×A1×A2×A3×A4):A4:=x.2.2.2.2
abbrev pf7{A0 A1 A2 A3 A4 A5 A6 A7:Type}(x:A0×A1×A2×A3×A4×A5×A6×A7):A7:=x.2.2.2.2.2.2.2
abbrev pf8{A0 A1 A2 A3 A4 A5 A6 A7 A8:Type}(x:A0×A1×A2×A3×A4×A5×A6×A7×A8):A8:=x.2.2.2.2.2.2.2.2
abbrev pf11{A0 A1 A2 A3 A4 A5 A6 A7 A8 A9 A10 A11:Type}(x:A0×A1×A2×A3×A4×A5×A6×A7×A8×A9×A10×A11):A11:=x.2.2.2.2.2.2.2.2.2.2.2
abbrev pf13{A0 A1 A2 A3 A4 A5 A6 A7 A8 A9 A10 A11 A12 A13:Type}(x:A0×A1×A2×A3×A4×A5×A6×A7×A8×A9×A10×A11×A12×A13):A13:=x.2.2.2.2.2.2.2.2.2.2.2.2.2
abbrev pf14{A0 A1 A2 A3 A4 A5 A6 A7 A8 A9 A10 A11 A12 A13 A14:Type}(x:A0×A1×A2×A3×A4×A5×A6×A7×A8×A9×A10×A11×A12×A13×A14):A14:=x.2.2.2.2.2.2.2.2.2.2.2.2.2.2
abbrev pf16{A0 A1 A2 A3 A4 A5 A6 A7 A8 A9 A10 A11 A12 A13 A14 A15 A16:Type}(x:A0×A1×A2×A3×A4×A5×A6×A7×A8×A9×A10×A11×A12×A13×A14×A15×A16):A16:=x.2.2.2.2.2.2.2.2.2.2.2.2.2.2.2.2
noncomputable section
def zc:Shp:=⟨[(0, .agg (.cons (.d true (.slice af.ty)) (.cons (.d true (.slice ab.ty)) (.cons (.d true (.slice ak.ty)) .nil))))],[]⟩
abbrev qjn:Ctx (((List af)×(List ab)×(List ak))):=⟨12,tt,false,false,[],mq [],nw [],cz 12 tt [] [.cell 0 26] zc (fun x=>(x.1.1.1,x.1.1.2.1,x.1.1.2.2.1))⟩
theorem qjm:CtxM Try.prog qjn:=n5 fits bk m0
abbrev qan:Mdl:=(aw .nil [] [] 1 zc (B:=((List af)×(List ab)×(List ak))) (fun b=>(((b.1,b.2.1,b.2.2,()),()),(()))) (fun a=>qi))
theorem qgc:MdlOK Try.prog 34 qan:=n4 Try.func34 rfl qjm .z s0
def qcn:Shp:=⟨[qb0],[]⟩
abbrev qnr:Ctx (Bool):=⟨17,tt,false,false,[],mq [],nw [],cz 17 tt [] [.tmp 2] qcn (fun x=>x.1.1)⟩
theorem qnq:CtxM Try.prog qnr:=n5 fits bk m0
abbrev yp:Mdl:=(aw (.cons (.d false (.int .u8)) .nil) [] [] 1 qcn (B:=Bool) (fun b=>((b,()),(()))) (fun a=>tr a.1.1))
theorem qaw:MdlOK Try.prog 92 yp:=n4 Try.func92 rfl qnq .z s0
def qhi:Shp:=⟨[qb0],[]⟩
abbrev qrb:Ctx (Bool):=⟨25,tt,false,false,[],mq [(92,yp)],nw [],cz 25 tt [] [.tmp 2] qhi (fun x=>x.1.1)⟩
theorem qra:CtxM Try.prog qrb:=n5 fits bk (mC qaw m0)
abbrev qj4:Mdl:=(aw (.cons (.d false (.int .u8)) .nil) [] [] 1 qhi (B:=Bool) (fun b=>((b,()),(()))) (fun a=>qbv a.1.1))
theorem qns:MdlOK Try.prog 93 qj4:=n4 Try.func93 rfl qra .z s0
def qcm:Shp:=⟨[qb0],[]⟩
abbrev qez:Ctx (Bool):=⟨29,tt,false,false,[],mq [(92,yp),(93,qj4)],nw [cu _ 29 [] qj3 (C:=(ByteArray×Int)) (S:=Int) (fun x=>((x.1.1,x.1.2.1),x.1.2.2.1)) qj2 (CE:=Unit) (E:=Unit) (fun c e=>((()),(()))) (fun c=>()) (fun{R} c a nx dn rt=>pc c.1 c.2 a nx dn rt)],cz 29 tt [] [.tmp 2] qcm (fun x=>x.1.1)⟩
theorem qey:CtxM Try.prog qez:=n5 fits bk (mC qaw (mC qns m0))
theorem qk6:ct Try.prog qez 0 (lc 0 Try.f64 75):=lp rfl qey .z s0 (fun c a=>((c.1,c.2,a,()),(()))) (fun y=>((),()))
abbrev m7:Mdl:=(aw (.cons (.d false .str) .nil) [] [] 1 qcm (B:=Bool) (fun b=>((b,()),(()))) (fun a=>gi a.1.1))
theorem me:MdlOK Try.prog 64 m7:=n4 Try.func64 rfl qey (.two .z (.two .z (.two (.two .z (.s 0)) .z))) (sC qk6 s0)
def zi:Shp:=⟨[qb0],[]⟩
abbrev qav:Ctx (Bool):=⟨32,tt,false,false,[],mq [(64,m7)],nw [cu _ 32 [] qgi (C:=((List ByteArray)×(List ByteArray)×Int)) (S:=Int) (fun x=>((x.1.1,x.1.2.1,x.1.2.2.1),(pe3 x.1))) qgh (CE:=Unit) (E:=Unit) (fun c e=>((()),(()))) (fun c=>()) (fun{R} c a nx dn rt=>km c.1 c.2.1 c.2.2 a nx dn rt)],cz 32 tt [] [.tmp 2] zi (fun x=>x.1.1)⟩
theorem qat:CtxM Try.prog qav:=n5 fits bk (mC me m0)
theorem qh7:ct Try.prog qav 0 (lc 0 Try.f91 75):=lp rfl qat .z s0 (fun c a=>((c.1,c.2.1,c.2.2,a,()),(()))) (fun y=>((),()))
abbrev qau:Mdl:=(aw (.cons (.d false (.slice .str)) .nil) [] [] 1 zi (B:=Bool) (fun b=>((b,()),(()))) (fun a=>qj a.1.1))
theorem qgj:MdlOK Try.prog 91 qau:=n4 Try.func91 rfl qat (.two .z (.two .z (.two (.two .z (.s 0)) .z))) (sC qh7 s0)
def qbk:Shp:=⟨[qb0],[]⟩
abbrev qc9:Ctx (Bool):=⟨41,tt,false,false,[],mq [(64,m7),(91,qau)],nw [cu _ 41 [] qih (C:=((List af)×(List af)×Int)) (S:=Int) (fun x=>((x.1.1,x.1.2.1,x.1.2.2.1),(pe3 x.1))) qig (CE:=(List af)) (E:=Unit) (fun c e=>((c,()),(()))) (fun c=>c.1) (fun{R} c a nx dn rt=>lg c.1 c.2.1 c.2.2 a nx dn rt)],cz 41 tt [] [.tmp 2] qbk (fun x=>x.1.1)⟩
theorem qc7:CtxM Try.prog qc9:=n5 fits bk (mC me (mC qgj m0))
theorem qkp:ct Try.prog qc9 0 (lc 0 Try.f62 37):=lp rfl qc7 (.two .z (.two .z (.two (.one (.two .z (.two (.d [0,1,3,7,15,31,63,127,255,255,767,2047,4095,8191,255,16639,65535,131071,262143,524287,1048575,2097151,4194303,8388607,16777215] [] []) .z))) .z))) s0 (fun c a=>((c.1,c.2.1,c.2.2,a,()),(()))) (fun y=>(y.1.1,()))
abbrev qc8:Mdl:=(aw (.cons (.d false (.slice af.ty)) .nil) [] [] 1 qbk (B:=Bool) (fun b=>((b,()),(()))) (fun a=>uq a.1.1))
theorem qii:MdlOK Try.prog 62 qc8:=n4 Try.func62 rfl qc7 (.two .z (.two (.two .z (.s 0)) .z)) (sC qkp s0)
def qbf:Shp:=⟨[qb0],[]⟩
abbrev qlh:Ctx (Bool):=⟨8,tt,false,false,[],mq [],nw [],cz 8 tt [] [.tmp 3] qbf (fun x=>x.1.1)⟩
theorem qlg:CtxM Try.prog qlh:=n5 fits bk m0
abbrev qc2:Mdl:=(aw (.cons (.d false af.ty) (.cons (.rp false .str) .nil)) [] [] 1 qbf (B:=Bool) (fun b=>((b,()),(()))) (fun a=>yv a.1.1 a.1.2.1))
theorem qic:MdlOK Try.prog 82 qc2:=n4 Try.func82 rfl qlg .z s0
def fy:Shp:=⟨[qf7],[]⟩
abbrev gg:Ctx (Int):=⟨19,tt,false,false,[],mq [(82,qc2)],nw [cu _ 19 [] mn (C:=((List af)×ByteArray×Int)) (S:=Int) (fun x=>((x.1.1,x.1.2.1.1,x.1.2.2.1),(pe3 x.1))) mm (CE:=Unit) (E:=Unit) (fun c e=>((()),(()))) (fun c=>()) (fun{R} c a nx dn rt=>bu c.1 c.2.1 c.2.2 a nx dn rt)],cz 19 tt [] [.tmp 4] fy (fun x=>x.1.1)⟩
theorem ge:CtxM Try.prog gg:=n5 fits bk (mC qic m0)
theorem m2:ct Try.prog gg 0 (lc 0 Try.f77 37):=lp rfl ge .z s0 (fun c a=>((c.1,(c.2.1,()),c.2.2,a,()),(()))) (fun y=>((),()))
abbrev gf:Mdl:=(aw (.cons (.d false (.slice af.ty)) (.cons (.fn 82 (.cons (.rp false .str) .nil)) .nil)) [] [] 1 fy (B:=Int) (fun b=>((b,()),(()))) (fun a=>da a.1.1 a.1.2.1.1))
theorem mo:MdlOK Try.prog 77 gf:=n4 Try.func77 rfl ge (.two .z (.two (.two .z (.s 0)) .z)) (sC m2 s0)
def qfe:Shp:=⟨[qf7],[]⟩
abbrev qp5:Ctx (Int):=⟨9,tt,false,false,[],mq [(77,gf)],nw [],cz 9 tt [] [.tmp 4] qfe (fun x=>x.1.1)⟩
theorem qp4:CtxM Try.prog qp5:=n5 fits bk (mC mo m0)
abbrev pf:Mdl:=(aw (.cons (.d false jo.ty) (.cons (.d false .str) .nil)) [] [] 1 qfe (B:=Int) (fun b=>((b,()),(()))) (fun a=>ly a.1.1 a.1.2.1))
theorem ny:MdlOK Try.prog 46 pf:=n4 Try.func46 rfl qp4 .z s0
def v4:Shp:=⟨[qb0],[]⟩
abbrev qf2:Ctx (Bool):=⟨18,tt,false,false,[],mq [],nw [],cz 18 tt [] [.tmp 2] v4 (fun x=>x.1.1)⟩
theorem qf1:CtxM Try.prog qf2:=n5 fits bk m0
abbrev xj:Mdl:=(aw (.cons (.d false qh3.ty) .nil) [] [] 1 v4 (B:=Bool) (fun b=>((b,()),(()))) (fun a=>qq a.1.1))
theorem qde:MdlOK Try.prog 65 xj:=n4 Try.func65 rfl qf1 .z s0
def zp:Shp:=⟨[qb0],[]⟩
abbrev qkg:Ctx (Bool):=⟨35,tt,false,false,[],mq [(46,pf),(64,m7),(65,xj)],nw [],cz 35 tt [] [.tmp 3] zp (fun x=>x.1.1)⟩
theorem qkf:CtxM Try.prog qkg:=n5 fits bk (mC ny (mC me (mC qde m0)))
abbrev qba:Mdl:=(aw (.cons (.d false ab.ty) (.cons (.rp false jo.ty) .nil)) [] [] 1 zp (B:=Bool) (fun b=>((b,()),(()))) (fun a=>td a.1.1 a.1.2.1))
theorem qgy:MdlOK Try.prog 63 qba:=n4 Try.func63 rfl qkf .z s0
def dr:Shp:=⟨[qf7],[]⟩
abbrev eb:Ctx (Int):=⟨19,tt,false,false,[],mq [(63,qba)],nw [cu _ 19 [] kc (C:=((List ab)×jo×Int)) (S:=Int) (fun x=>((x.1.1,x.1.2.1.1,x.1.2.2.1),(pe3 x.1))) kb (CE:=Unit) (E:=Unit) (fun c e=>((()),(()))) (fun c=>()) (fun{R} c a nx dn rt=>a9 c.1 c.2.1 c.2.2 a nx dn rt)],cz 19 tt [] [.tmp 4] dr (fun x=>x.1.1)⟩
theorem d9:CtxM Try.prog eb:=n5 fits bk (mC qgy m0)
theorem kq:ct Try.prog eb 0 (lc 0 Try.f78 37):=lp rfl d9 .z s0 (fun c a=>((c.1,(c.2.1,()),c.2.2,a,()),(()))) (fun y=>((),()))
abbrev ea:Mdl:=(aw (.cons (.d false (.slice ab.ty)) (.cons (.fn 63 (.cons (.rp false jo.ty) .nil)) .nil)) [] [] 1 dr (B:=Int) (fun b=>((b,()),(()))) (fun a=>cf a.1.1 a.1.2.1.1))
theorem kd:MdlOK Try.prog 78 ea:=n4 Try.func78 rfl d9 (.two .z (.two (.two .z (.s 0)) .z)) (sC kq s0)
def c6:Shp:=⟨[qb0],[]⟩
abbrev j5:Ctx (Bool):=⟨9,tt,false,false,[],mq [(78,ea)],nw [],cz 9 tt [] [.tmp 4] c6 (fun x=>x.1.1)⟩
theorem j4:CtxM Try.prog j5:=n5 fits bk (mC kd m0)
abbrev de:Mdl:=(aw (.cons (.d false (.slice ab.ty)) (.cons (.fn 63 (.cons (.rp false jo.ty) .nil)) .nil)) [] [] 1 c6 (B:=Bool) (fun b=>((b,()),(()))) (fun a=>a7 a.1.1 a.1.2.1.1))
theorem jq:MdlOK Try.prog 37 de:=n4 Try.func37 rfl j4 .z s0
def zq:Shp:=⟨[qb0],[]⟩
abbrev qki:Ctx (Bool):=⟨23,tt,false,false,[],mq [(64,m7)],nw [],cz 23 tt [] [.tmp 2] zq (fun x=>x.1.1)⟩
theorem qkh:CtxM Try.prog qki:=n5 fits bk (mC me m0)
abbrev qbb:Mdl:=(aw (.cons (.d false ak.ty) .nil) [] [] 1 zq (B:=Bool) (fun b=>((b,()),(()))) (fun a=>te a.1.1))
theorem qgz:MdlOK Try.prog 66 qbb:=n4 Try.func66 rfl qkh .z s0
def ie:Shp:=⟨[qf7],[]⟩
abbrev i9:Ctx (Int):=⟨19,tt,false,false,[],mq [(66,qbb)],nw [cu _ 19 [] oa (C:=((List ak)×Int)) (S:=Int) (fun x=>((x.1.1,x.1.2.2.1),(pe3 x.1))) n9 (CE:=Unit) (E:=Unit) (fun c e=>((()),(()))) (fun c=>()) (fun{R} c a nx dn rt=>b8 c.1 c.2 a nx dn rt)],cz 19 tt [] [.tmp 4] ie (fun x=>x.1.1)⟩
theorem i6:CtxM Try.prog i9:=n5 fits bk (mC qgz m0)
theorem o5:ct Try.prog i9 0 (lc 0 Try.f79 37):=lp rfl i6 .z s0 (fun c a=>((c.1,(()),c.2,a,()),(()))) (fun y=>((),()))
abbrev i7:Mdl:=(aw (.cons (.d false (.slice ak.ty)) (.cons (.fn 66 .nil) .nil)) [] [] 1 ie (B:=Int) (fun b=>((b,()),(()))) (fun a=>ee a.1.1))
theorem oc:MdlOK Try.prog 79 i7:=n4 Try.func79 rfl i6 (.two .z (.two (.two .z (.s 0)) .z)) (sC o5 s0)
def f4:Shp:=⟨[qb0],[]⟩
abbrev nm:Ctx (Bool):=⟨9,tt,false,false,[],mq [(79,i7)],nw [],cz 9 tt [] [.tmp 4] f4 (fun x=>x.1.1)⟩
theorem nk:CtxM Try.prog nm:=n5 fits bk (mC oc m0)
abbrev gl:Mdl:=(aw (.cons (.d false (.slice ak.ty)) (.cons (.fn 66 .nil) .nil)) [] [] 1 f4 (B:=Bool) (fun b=>((b,()),(()))) (fun a=>bz a.1.1))
theorem mt:MdlOK Try.prog 39 gl:=n4 Try.func39 rfl nk .z s0
def qcz:Shp:=⟨[qb0],[]⟩
abbrev qn2:Ctx (Bool):=⟨32,tt,false,false,[],mq [(62,qc8),(37,de),(39,gl)],nw [],cz 32 tt [] [.tmp 2] qcz (fun x=>x.1.1)⟩
theorem qn1:CtxM Try.prog qn2:=n5 fits bk (mC qii (mC jq (mC mt m0)))
abbrev pp:Mdl:=(aw (.cons (.d false jo.ty) .nil) [] [] 1 qcz (B:=Bool) (fun b=>((b,()),(()))) (fun a=>m3 a.1.1))
theorem pe:MdlOK Try.prog 22 pp:=n4 Try.func22 rfl qn1 .z s0
def zy:Shp:=⟨[qb0],[]⟩
abbrev qko:Ctx (Bool):=⟨6,tt,false,false,[],mq [(64,m7)],nw [],cz 6 tt [] [.tmp 2] zy (fun x=>x.1.1)⟩
theorem qkn:CtxM Try.prog qko:=n5 fits bk (mC me m0)
abbrev qbh:Mdl:=(aw (.cons (.d false .str) .nil) [] [] 1 zy (B:=Bool) (fun b=>((b,()),(()))) (fun a=>xc a.1.1))
theorem qg0:MdlOK Try.prog 85 qbh:=n4 Try.func85 rfl qkn .z s0
def kl:Shp:=⟨[qf7],[]⟩
abbrev la:Ctx (Int):=⟨19,tt,false,false,[],mq [(85,qbh)],nw [cu _ 19 [] qd (C:=((List ByteArray)×Int)) (S:=Int) (fun x=>((x.1.1,x.1.2.2.1),(pe3 x.1))) qc (CE:=Unit) (E:=Unit) (fun c e=>((()),(()))) (fun c=>()) (fun{R} c a nx dn rt=>cn c.1 c.2 a nx dn rt)],cz 19 tt [] [.tmp 4] kl (fun x=>x.1.1)⟩
theorem k8:CtxM Try.prog la:=n5 fits bk (mC qg0 m0)
theorem qo:ct Try.prog la 0 (lc 0 Try.f80 37):=lp rfl k8 .z s0 (fun c a=>((c.1,(()),c.2,a,()),(()))) (fun y=>((),()))
abbrev k9:Mdl:=(aw (.cons (.d false (.slice .str)) (.cons (.fn 85 .nil) .nil)) [] [] 1 kl (B:=Int) (fun b=>((b,()),(()))) (fun a=>fq a.1.1))
theorem qe:MdlOK Try.prog 80 k9:=n4 Try.func80 rfl k8 (.two .z (.two (.two .z (.s 0)) .z)) (sC qo s0)
def iz:Shp:=⟨[qb0],[]⟩
abbrev pw:Ctx (Bool):=⟨9,tt,false,false,[],mq [(80,k9)],nw [],cz 9 tt [] [.tmp 4] iz (fun x=>x.1.1)⟩
theorem pu:CtxM Try.prog pw:=n5 fits bk (mC qe m0)
abbrev jx:Mdl:=(aw (.cons (.d false (.slice .str)) (.cons (.fn 85 .nil) .nil)) [] [] 1 iz (B:=Bool) (fun b=>((b,()),(()))) (fun a=>ep a.1.1))
theorem o3:MdlOK Try.prog 41 jx:=n4 Try.func41 rfl pu .z s0
def qc5:Shp:=⟨[qb0],[]⟩
abbrev qoc:Ctx (Bool):=⟨6,tt,false,false,[],mq [(41,jx)],nw [],cz 6 tt [] [.tmp 2] qc5 (fun x=>x.1.1)⟩
theorem qob:CtxM Try.prog qoc:=n5 fits bk (mC o3 m0)
abbrev ry:Mdl:=(aw (.cons (.d false (.slice .str)) .nil) [] [] 1 qc5 (B:=Bool) (fun b=>((b,()),(()))) (fun a=>m4 a.1.1))
theorem rz:MdlOK Try.prog 53 ry:=n4 Try.func53 rfl qob .z s0
def zx:Shp:=⟨[qb0],[]⟩
abbrev qkm:Ctx (Bool):=⟨9,tt,false,false,[],mq [],nw [],cz 9 tt [] [.tmp 2] zx (fun x=>x.1.1)⟩
theorem qkl:CtxM Try.prog qkm:=n5 fits bk m0
abbrev rx:Mdl:=(aw (.cons (.d false qT0) .nil) [] [] 1 zx (B:=Bool) (fun b=>((b,()),(()))) (fun a=>nz a.1.1))
theorem s4:MdlOK Try.prog 54 rx:=n4 Try.func54 rfl qkl .z s0
def nv:Shp:=⟨[qf7],[]⟩
abbrev oy:Ctx (Int):=⟨19,tt,false,false,[],mq [],nw [cu _ 19 [] t3 (C:=((List ByteArray)×ByteArray×Int)) (S:=Int) (fun x=>((x.1.1,x.1.2.1,x.1.2.2.1),(pe3 x.1))) tz (CE:=Unit) (E:=Unit) (fun c e=>((()),(()))) (fun c=>()) (fun{R} c a nx dn rt=>eu c.1 c.2.1 c.2.2 a nx dn rt)],cz 19 tt [] [.tmp 4] nv (fun x=>x.1.1)⟩
theorem ow:CtxM Try.prog oy:=n5 fits bk m0
theorem ue:ct Try.prog oy 0 (lc 0 Try.f83 37):=lp rfl ow .z s0 (fun c a=>((c.1,c.2.1,c.2.2,a,()),(()))) (fun y=>((),()))
abbrev ox:Mdl:=(aw (.cons (.d false (.slice .str)) (.cons (.d false .str) .nil)) [] [] 1 nv (B:=Int) (fun b=>((b,()),(()))) (fun a=>lb a.1.1 a.1.2.1))
theorem t4:MdlOK Try.prog 83 ox:=n4 Try.func83 rfl ow (.two .z (.two (.two .z (.s 0)) .z)) (sC ue s0)
def l0:Shp:=⟨[qb0],[]⟩
abbrev s8:Ctx (Bool):=⟨9,tt,false,false,[],mq [(83,ox)],nw [],cz 9 tt [] [.tmp 4] l0 (fun x=>x.1.1)⟩
theorem s7:CtxM Try.prog s8:=n5 fits bk (mC t4 m0)
abbrev mh:Mdl:=(aw (.cons (.d false (.slice .str)) (.cons (.d false .str) .nil)) [] [] 1 l0 (B:=Bool) (fun b=>((b,()),(()))) (fun a=>er a.1.1 a.1.2.1))
theorem sc:MdlOK Try.prog 47 mh:=n4 Try.func47 rfl s7 .z s0
def qc4:Shp:=⟨[qb0],[]⟩
abbrev qoa:Ctx (Bool):=⟨15,tt,false,false,[],mq [(46,pf),(47,mh)],nw [],cz 15 tt [] [.tmp 4] qc4 (fun x=>x.1.1)⟩
theorem qn9:CtxM Try.prog qoa:=n5 fits bk (mC ny (mC sc m0))
abbrev yw:Mdl:=(aw (.cons (.d false .str) (.cons (.rp false jo.ty) (.cons (.rp false .str) .nil))) [] [] 1 qc4 (B:=Bool) (fun b=>((b,()),(()))) (fun a=>tv a.1.1 a.1.2.1 a.1.2.2.1))
theorem qbg:MdlOK Try.prog 86 yw:=n4 Try.func86 rfl qn9 (.two .z (.two (.d [0,1,0,0,12,31,63,127,0,511,1023] [] []) .z)) s0
def x4:Shp:=⟨[qb0],[qhu,qfr,qbo]⟩
abbrev qie:Ctx ((Bool×ByteArray×(List af)×(List ab)×(List ak))):=⟨37,tt,false,false,[true,true,true],mq [(86,yw)],nw [],cz 37 tt [true,true,true] [.tmp 6] x4 (fun x=>(x.1.1,x.2.1.1,(pe3 x).1,(pe3 x).2.1,(pe3 x).2.2.1))⟩
theorem qid:CtxM Try.prog qie:=n5 fits bk (mC qbg m0)
abbrev zw:Mdl:=(aw (.cons (.d false ab.ty) (.cons (.rp false .str) (.cons (.ptr 0) (.cons (.rp false qT0) (.cons (.ptr 1) .nil))))) [.cs 9 1 1 (.cons (.d false .str) .nil),qfr,qbo] [true,true,true] 1 x4 (B:=(Bool×ByteArray×(List af)×(List ab)×(List ak))) (fun b=>((b.1,()),((b.2.1,()),(((),(),()),()),(b.2.2.1,(pe3 b),(pf4 b),()),()))) (fun a=>vm a.1.1 a.1.2.1 (pe3 a.1) a.2.1.1 (pe3 a).1 (pe3 a).2.1 (pe3 a).2.2.1))
theorem qfg:MdlOK Try.prog 87 zw:=n4 Try.func87 rfl qid .z s0
def c8:Shp:=⟨[qf7],[qhu,qfr,qbo]⟩
abbrev dh:Ctx ((Int×ByteArray×(List af)×(List ab)×(List ak))):=⟨19,tt,false,false,[true,true,true],mq [(87,zw)],nw [cu _ 19 [true,true,true] js (C:=((List ab)×ByteArray×Int×Int)) (S:=(Int×ByteArray×(List af)×(List ab)×(List ak))) (fun x=>((x.1.1,x.1.2.1.1,x.1.2.1.2.2.1,x.1.2.2.1),((pe3 x.1),x.2.1.1,(pe3 x).1,(pe3 x).2.1,(pe3 x).2.2.1))) jr (CE:=Unit) (E:=(ByteArray×(List af)×(List ab)×(List ak))) (fun c e=>((()),((e.1,()),(((),(),()),()),(e.2.1,e.2.2.1,e.2.2.2,()),()))) (fun c=>()) (fun{R} c a nx dn rt=>ao c.1 c.2.1 c.2.2.1 c.2.2.2 a.1 a.2.1 a.2.2.1 (pe3 a) (pf4 a) nx dn rt)],cz 19 tt [true,true,true] [.tmp 4] c8 (fun x=>(x.1.1,x.2.1.1,(pe3 x).1,(pe3 x).2.1,(pe3 x).2.2.1))⟩
theorem df:CtxM Try.prog dh:=n5 fits bk (mC qfg m0)
theorem jz:ct Try.prog dh 0 (lc 0 Try.f78 37):=lp rfl df .z s0 (fun c a=>((c.1,(c.2.1,(),c.2.2.1,(),()),c.2.2.2,a.1,()),((a.2.1,()),(((),(),()),()),(a.2.2.1,(pe3 a),(pf4 a),()),()))) (fun y=>((),(y.2.1.1,(pe3 y).1,(pe3 y).2.1,(pe3 y).2.2.1)))
abbrev dg:Mdl:=(aw (.cons (.d false (.slice ab.ty)) (.cons (.fn 87 (.cons (.rp false .str) (.cons (.ptr 0) (.cons (.rp false qT0) (.cons (.ptr 1) .nil))))) .nil)) [.cs 9 1 1 (.cons (.d false .str) .nil),qfr,qbo] [true,true,true] 1 c8 (B:=(Int×ByteArray×(List af)×(List ab)×(List ak))) (fun b=>((b.1,()),((b.2.1,()),(((),(),()),()),(b.2.2.1,(pe3 b),(pf4 b),()),()))) (fun a=>bx a.1.1 a.1.2.1.1 a.1.2.1.2.2.1 a.2.1.1 (pe3 a).1 (pe3 a).2.1 (pe3 a).2.2.1))
theorem jt:MdlOK Try.prog 78 dg:=n4 Try.func78 rfl df (.two .z (.two (.two .z (.s 0)) .z)) (sC jz s0)
def cr:Shp:=⟨[qb0],[qhu,qfr,qbo]⟩
abbrev iw:Ctx ((Bool×ByteArray×(List af)×(List ab)×(List ak))):=⟨9,tt,false,false,[true,true,true],mq [(78,dg)],nw [],cz 9 tt [true,true,true] [.tmp 4] cr (fun x=>(x.1.1,x.2.1.1,(pe3 x).1,(pe3 x).2.1,(pe3 x).2.2.1))⟩
theorem iv:CtxM Try.prog iw:=n5 fits bk (mC jt m0)
abbrev cx:Mdl:=(aw (.cons (.d false (.slice ab.ty)) (.cons (.fn 87 (.cons (.rp false .str) (.cons (.ptr 0) (.cons (.rp false qT0) (.cons (.ptr 1) .nil))))) .nil)) [.cs 9 1 1 (.cons (.d false .str) .nil),qfr,qbo] [true,true,true] 1 cr (B:=(Bool×ByteArray×(List af)×(List ab)×(List ak))) (fun b=>((b.1,()),((b.2.1,()),(((),(),()),()),(b.2.2.1,(pe3 b),(pf4 b),()),()))) (fun a=>bq a.1.1 a.1.2.1.1 a.1.2.1.2.2.1 a.2.1.1 (pe3 a).1 (pe3 a).2.1 (pe3 a).2.2.1))
theorem h8:MdlOK Try.prog 37 cx:=n4 Try.func37 rfl iv .z s0
def qhr:Shp:=⟨[qb0],[]⟩
abbrev qrs:Ctx (Bool):=⟨20,tt,false,false,[],mq [(86,yw),(37,cx)],nw [],cz 20 tt [] [.tmp 8] qhr (fun x=>x.1.1)⟩
theorem qrr:CtxM Try.prog qrs:=n5 fits bk (mC qbg (mC h8 m0))
abbrev qdt:Mdl:=(aw (.cons (.d true jo.ty) (.cons (.d false .str) (.cons (.d false .str) (.cons (.d false qT0) .nil)))) [] [] 1 qhr (B:=Bool) (fun b=>((b,()),(()))) (fun a=>x3 a.1.1 a.1.2.1 a.1.2.2.1 (pe3 a.1)))
theorem qfh:MdlOK Try.prog 55 qdt:=n4 Try.func55 rfl qrr .z s0
def qho:Shp:=⟨[qb0,q7p],[]⟩
abbrev qrq:Ctx ((Bool×Int)):=⟨34,tt,false,false,[],mq [(22,pp),(53,ry),(54,rx),(46,pf),(55,qdt)],nw [],cz 34 tt [] [.tmp 8, .tmp 9] qho (fun x=>(x.1.1,x.1.2.1))⟩
theorem qrp:CtxM Try.prog qrq:=n5 fits bk (mC pe (mC rz (mC s4 (mC ny (mC qfh m0)))))
abbrev qke:Mdl:=(aw (.cons (.d true jo.ty) (.cons (.d false .str) (.cons (.d false .str) (.cons (.d false qT0) .nil)))) [] [] 2 qho (B:=(Bool×Int)) (fun b=>((b.1,b.2,()),(()))) (fun a=>qgx a.1.1 a.1.2.1 a.1.2.2.1 (pe3 a.1)))
theorem qn0:MdlOK Try.prog 16 qke:=n4 Try.func16 rfl qrp .z s0
def qbi:Shp:=⟨[qb0],[]⟩
abbrev qlj:Ctx (Bool):=⟨15,tt,false,false,[],mq [(64,m7),(46,pf)],nw [],cz 15 tt [] [.tmp 3] qbi (fun x=>x.1.1)⟩
theorem qli:CtxM Try.prog qlj:=n5 fits bk (mC me (mC ny m0))
abbrev qc6:Mdl:=(aw (.cons (.d false aq.ty) (.cons (.rp false jo.ty) .nil)) [] [] 1 qbi (B:=Bool) (fun b=>((b,()),(()))) (fun a=>uo a.1.1 a.1.2.1))
theorem qif:MdlOK Try.prog 88 qc6:=n4 Try.func88 rfl qli .z s0
def io:Shp:=⟨[qf7],[]⟩
abbrev jj:Ctx (Int):=⟨19,tt,false,false,[],mq [(88,qc6)],nw [cu _ 19 [] om (C:=((List aq)×jo×Int)) (S:=Int) (fun x=>((x.1.1,x.1.2.1.1,x.1.2.2.1),(pe3 x.1))) ol (CE:=Unit) (E:=Unit) (fun c e=>((()),(()))) (fun c=>()) (fun{R} c a nx dn rt=>cb c.1 c.2.1 c.2.2 a nx dn rt)],cz 19 tt [] [.tmp 4] io (fun x=>x.1.1)⟩
theorem jh:CtxM Try.prog jj:=n5 fits bk (mC qif m0)
theorem o8:ct Try.prog jj 0 (lc 0 Try.f81 37):=lp rfl jh .z s0 (fun c a=>((c.1,(c.2.1,()),c.2.2,a,()),(()))) (fun y=>((),()))
abbrev ji:Mdl:=(aw (.cons (.d false (.slice aq.ty)) (.cons (.fn 88 (.cons (.rp false jo.ty) .nil)) .nil)) [] [] 1 io (B:=Int) (fun b=>((b,()),(()))) (fun a=>em a.1.1 a.1.2.1.1))
theorem oq:MdlOK Try.prog 81 ji:=n4 Try.func81 rfl jh (.two .z (.two (.two .z (.s 0)) .z)) (sC o8 s0)
def f7:Shp:=⟨[qb0],[]⟩
abbrev nr:Ctx (Bool):=⟨9,tt,false,false,[],mq [(81,ji)],nw [],cz 9 tt [] [.tmp 4] f7 (fun x=>x.1.1)⟩
theorem nq:CtxM Try.prog nr:=n5 fits bk (mC oq m0)
abbrev gn:Mdl:=(aw (.cons (.d false (.slice aq.ty)) (.cons (.fn 88 (.cons (.rp false jo.ty) .nil)) .nil)) [] [] 1 f7 (B:=Bool) (fun b=>((b,()),(()))) (fun a=>di a.1.1 a.1.2.1.1))
theorem mw:MdlOK Try.prog 43 gn:=n4 Try.func43 rfl nq .z s0
def qfj:Shp:=⟨[qf7],[]⟩
abbrev qp7:Ctx (Int):=⟨11,tt,false,false,[],mq [(43,gn)],nw [],cz 11 tt [] [.tmp 4] qfj (fun x=>x.1.1)⟩
theorem qp6:CtxM Try.prog qp7:=n5 fits bk (mC mw m0)
abbrev wj:Mdl:=(aw (.cons (.d false jo.ty) (.cons (.d false (.slice aq.ty)) .nil)) [] [] 1 qfj (B:=Int) (fun b=>((b,()),(()))) (fun a=>s5 a.1.1 a.1.2.1))
theorem xd:MdlOK Try.prog 58 wj:=n4 Try.func58 rfl qp6 .z s0
def vk:Shp:=⟨[qb0],[]⟩
abbrev wi:Ctx (Bool):=⟨48,tt,false,false,[],mq [],nw [tp _ 48 [] qcc (A:=(ak×ByteArray×Bool×ByteArray×ByteArray)) (fun x=>(x.1.1,x.1.2.1,(pe3 x.1),x.2.1.1,x.2.1.2.1)) qcb (CE:=Unit) (E:=Unit) (fun c e=>((()),(()))) (fun c=>()) (fun{R} c dn rt=>p8 c.1 c.2.1 c.2.2.1 (pe3 c) (pf4 c) dn rt)],cz 48 tt [] [.tmp 5] vk (fun x=>x.1.1)⟩
theorem wg:CtxM Try.prog wi:=n5 fits bk m0
theorem qds:ct Try.prog wi 0 (jc Try.f90 7):=jn rfl wg .z s0 (fun c=>((c.1,c.2.1,(),c.2.2.1,()),(((pe3 c),(pf4 c),()),()))) (fun y=>((),()))
abbrev wh:Mdl:=(aw (.cons (.d false aq.ty) (.cons (.rp false .str) (.cons (.rp false ak.ty) (.cons (.rp false .str) .nil)))) [] [] 1 vk (B:=Bool) (fun b=>((b,()),(()))) (fun a=>pq a.1.1 a.1.2.1 a.1.2.2.1 (pe3 a.1)))
theorem qcd:MdlOK Try.prog 90 wh:=n4 Try.func90 rfl wg (.two .z (.two .z (.s 0))) (sC qds s0)
def iq:Shp:=⟨[qf7],[]⟩
abbrev jm:Ctx (Int):=⟨19,tt,false,false,[],mq [(90,wh)],nw [cu _ 19 [] ou (C:=((List aq)×ByteArray×ak×ByteArray×Int)) (S:=Int) (fun x=>((x.1.1,x.1.2.1.1,x.1.2.1.2.1,x.1.2.1.2.2.1,x.1.2.2.1),(pe3 x.1))) ot (CE:=Unit) (E:=Unit) (fun c e=>((()),(()))) (fun c=>()) (fun{R} c a nx dn rt=>cd c.1 c.2.1 c.2.2.1 (pe3 c) (pf4 c) a nx dn rt)],cz 19 tt [] [.tmp 4] iq (fun x=>x.1.1)⟩
theorem jk:CtxM Try.prog jm:=n5 fits bk (mC qcd m0)
theorem o9:ct Try.prog jm 0 (lc 0 Try.f81 37):=lp rfl jk .z s0 (fun c a=>((c.1,(c.2.1,c.2.2.1,(pe3 c),()),(pf4 c),a,()),(()))) (fun y=>((),()))
abbrev jl:Mdl:=(aw (.cons (.d false (.slice aq.ty)) (.cons (.fn 90 (.cons (.rp false .str) (.cons (.rp false ak.ty) (.cons (.rp false .str) .nil)))) .nil)) [] [] 1 iq (B:=Int) (fun b=>((b,()),(()))) (fun a=>en a.1.1 a.1.2.1.1 a.1.2.1.2.1 a.1.2.1.2.2.1))
theorem ov:MdlOK Try.prog 81 jl:=n4 Try.func81 rfl jk (.two .z (.two (.two .z (.s 0)) .z)) (sC o9 s0)
def f8:Shp:=⟨[qb0],[]⟩
abbrev nt:Ctx (Bool):=⟨9,tt,false,false,[],mq [(81,jl)],nw [],cz 9 tt [] [.tmp 4] f8 (fun x=>x.1.1)⟩
theorem ns:CtxM Try.prog nt:=n5 fits bk (mC ov m0)
abbrev gp:Mdl:=(aw (.cons (.d false (.slice aq.ty)) (.cons (.fn 90 (.cons (.rp false .str) (.cons (.rp false ak.ty) (.cons (.rp false .str) .nil)))) .nil)) [] [] 1 f8 (B:=Bool) (fun b=>((b,()),(()))) (fun a=>dj a.1.1 a.1.2.1.1 a.1.2.1.2.1 a.1.2.1.2.2.1))
theorem my:MdlOK Try.prog 43 gp:=n4 Try.func43 rfl ns .z s0
def x0:Shp:=⟨[qb0],[]⟩
abbrev qib:Ctx (Bool):=⟨9,tt,false,false,[],mq [(43,gp)],nw [],cz 9 tt [] [.tmp 5] x0 (fun x=>x.1.1)⟩
theorem qia:CtxM Try.prog qib:=n5 fits bk (mC my m0)
abbrev zr:Mdl:=(aw (.cons (.d false ak.ty) (.cons (.rp false (.slice aq.ty)) (.cons (.rp false .str) (.cons (.rp false .str) .nil)))) [] [] 1 x0 (B:=Bool) (fun b=>((b,()),(()))) (fun a=>rv a.1.1 a.1.2.1 a.1.2.2.1 (pe3 a.1)))
theorem qfd:MdlOK Try.prog 89 zr:=n4 Try.func89 rfl qia .z s0
def ii:Shp:=⟨[qf7],[]⟩
abbrev jd:Ctx (Int):=⟨19,tt,false,false,[],mq [(89,zr)],nw [cu _ 19 [] oe (C:=((List ak)×(List aq)×ByteArray×ByteArray×Int)) (S:=Int) (fun x=>((x.1.1,x.1.2.1.1,x.1.2.1.2.1,x.1.2.1.2.2.1,x.1.2.2.1),(pe3 x.1))) od (CE:=Unit) (E:=Unit) (fun c e=>((()),(()))) (fun c=>()) (fun{R} c a nx dn rt=>b9 c.1 c.2.1 c.2.2.1 (pe3 c) (pf4 c) a nx dn rt)],cz 19 tt [] [.tmp 4] ii (fun x=>x.1.1)⟩
theorem ja:CtxM Try.prog jd:=n5 fits bk (mC qfd m0)
theorem o6:ct Try.prog jd 0 (lc 0 Try.f79 37):=lp rfl ja .z s0 (fun c a=>((c.1,(c.2.1,c.2.2.1,(pe3 c),()),(pf4 c),a,()),(()))) (fun y=>((),()))
abbrev jb:Mdl:=(aw (.cons (.d false (.slice ak.ty)) (.cons (.fn 89 (.cons (.rp false (.slice aq.ty)) (.cons (.rp false .str) (.cons (.rp false .str) .nil)))) .nil)) [] [] 1 ii (B:=Int) (fun b=>((b,()),(()))) (fun a=>eh a.1.1 a.1.2.1.1 a.1.2.1.2.1 a.1.2.1.2.2.1))
theorem og:MdlOK Try.prog 79 jb:=n4 Try.func79 rfl ja (.two .z (.two (.two .z (.s 0)) .z)) (sC o6 s0)
def qbe:Shp:=⟨[qf7],[]⟩
abbrev qlf:Ctx (Int):=⟨13,tt,false,false,[],mq [(79,jb)],nw [],cz 13 tt [] [.tmp 8] qbe (fun x=>x.1.1)⟩
theorem qle:CtxM Try.prog qlf:=n5 fits bk (mC og m0)
abbrev xa:Mdl:=(aw (.cons (.d false jo.ty) (.cons (.d false .str) (.cons (.d false .str) (.cons (.d false (.slice aq.ty)) .nil)))) [] [] 1 qbe (B:=Int) (fun b=>((b,()),(()))) (fun a=>ru a.1.1 a.1.2.1 a.1.2.2.1 (pe3 a.1)))
theorem zt:MdlOK Try.prog 59 xa:=n4 Try.func59 rfl qle .z s0
def zo:Shp:=⟨[qf7,q7p],[]⟩
abbrev qkd:Ctx ((Int×Int)):=⟨35,tt,false,false,[],mq [(22,pp),(53,ry),(46,pf),(58,wj),(59,xa)],nw [],cz 35 tt [] [.tmp 8, .tmp 9] zo (fun x=>(x.1.1,x.1.2.1))⟩
theorem qkc:CtxM Try.prog qkd:=n5 fits bk (mC pe (mC rz (mC ny (mC xd (mC zt m0)))))
abbrev qa9:Mdl:=(aw (.cons (.d false jo.ty) (.cons (.d false .str) (.cons (.d false .str) (.cons (.d false (.slice aq.ty)) .nil)))) [] [] 2 zo (B:=(Int×Int)) (fun b=>((b.1,b.2,()),(()))) (fun a=>qcy a.1.1 a.1.2.1 a.1.2.2.1 (pe3 a.1)))
theorem qgw:MdlOK Try.prog 18 qa9:=n4 Try.func18 rfl qkc .z s0
def qc3:Shp:=⟨[qf7],[]⟩
abbrev qn8:Ctx (Int):=⟨42,tt,false,false,[],mq [(22,pp),(53,ry),(54,rx),(58,wj)],nw [],cz 42 tt [] [.tmp 10] qc3 (fun x=>x.1.1)⟩
theorem qn7:CtxM Try.prog qn8:=n5 fits bk (mC pe (mC rz (mC s4 (mC xd m0))))
abbrev qff:Mdl:=(aw (.cons (.d false jo.ty) (.cons (.d false (.slice .str)) (.cons (.d false (.slice .str)) (.cons (.d false qT0) (.cons (.d false (.slice aq.ty)) .nil))))) [] [] 1 qc3 (B:=Int) (fun b=>((b,()),(()))) (fun a=>qhq a.1.1 a.1.2.1 a.1.2.2.1 (pe3 a.1) (pe4 a.1)))
theorem qkk:MdlOK Try.prog 45 qff:=n4 Try.func45 rfl qn7 .z s0
def qhs:Shp:=⟨[qb0],[]⟩
abbrev qru:Ctx (Bool):=⟨26,tt,false,false,[],mq [(55,qdt),(59,xa)],nw [],cz 26 tt [] [.tmp 12] qhs (fun x=>x.1.1)⟩
theorem qrt:CtxM Try.prog qru:=n5 fits bk (mC qfh (mC zt m0))
abbrev qdu:Mdl:=(aw (.cons (.d true jo.ty) (.cons (.d false .str) (.cons (.d false .str) (.cons (.d false .str) (.cons (.d false qT0) (.cons (.d false (.slice aq.ty)) .nil)))))) [] [] 1 qhs (B:=Bool) (fun b=>((b,()),(()))) (fun a=>x5 a.1.1 a.1.2.1 a.1.2.2.1 (pe3 a.1) (pe4 a.1) (pe5 a.1)))
theorem qfi:MdlOK Try.prog 48 qdu:=n4 Try.func48 rfl qrt .z s0
def qfc:Shp:=⟨[q8v],[qh5]⟩
abbrev qbd:Ctx (qL1):=⟨56,tt,false,false,[],mq [(48,qdu)],nw [cu _ 56 [] qla (C:=((List ByteArray)×(List ByteArray)×Int×(List aq)×Int×Int×Int×(List af)×Int×(List af)×(List ab)×(List ak))) (S:=(Int×qL1)) (fun x=>((x.1.1,x.1.2.1,x.1.2.2.1,(pe3 x.1),(pe6 x.1),(pe7 x.1),(pe8 x.1),(pe9 x.1),(pe10 x.1),x.2.1.1,x.2.1.2.1,x.2.1.2.2.1),((pe11 x.1),x.2.2.1))) qk9 (CE:=((List ByteArray)×(List ByteArray)×Int×(List aq)×Int×Int×(List af)×(List ab)×(List ak))) (E:=qL1) (fun c e=>((c.1,c.2.1,c.2.2.1,(pe3 c),(),(),(pe4 c),(pe5 c),()),(((pe6 c),(pe7 c),(pf8 c),()),e,()))) (fun c=>(c.1,c.2.1,c.2.2.1,(pe3 c),(pe5 c),(pe6 c),(pe9 c),(pe10 c),(pf11 c))) (fun{R} c a nx dn rt=>qc0 c.1 c.2.1 c.2.2.1 (pe3 c) (pe4 c) (pe5 c) (pe6 c) (pe7 c) (pe8 c) (pe9 c) (pe10 c) (pf11 c) a.1 a.2 nx dn rt),cu _ 56 [] qlc (C:=((List ByteArray)×(List ByteArray)×Int×(List aq)×Int×(List af)×(List ab)×(List ak))) (S:=(Int×qL1)) (fun x=>((x.1.1,x.1.2.1,x.1.2.2.1,(pe3 x.1),(pe6 x.1),x.2.1.1,x.2.1.2.1,x.2.1.2.2.1),((pe7 x.1),x.2.2.1))) qlb (CE:=Unit) (E:=qL1) (fun c e=>(((),()),(e,()))) (fun c=>()) (fun{R} c a nx dn rt=>qc1 c.1 c.2.1 c.2.2.1 (pe3 c) (pe4 c) (pe5 c) (pe6 c) (pf7 c) a.1 a.2 nx dn rt)],cz 56 tt [] [.tmp 10] qfc (fun x=>x.2.1)⟩
theorem qbc:CtxM Try.prog qbd:=n5 fits bk (mC qfi m0)
theorem qn5:ct Try.prog qbd 0 (lc 2 Try.f70 19659):=lp rfl qbc (.two .z (.two .z (.two (.one (.two .z (.two (.d [0,0,2,0,0,24,56,0,0,384,896,0,0,8191] [] []) (.two (.d [0,0,3,7,0,16,63,127,255] [8] []) .z)))) .z))) s0 (fun c a=>((c.1,c.2.1,c.2.2.1,(pe3 c),(),(),(pe4 c),(pe5 c),(pe6 c),(pe7 c),(pe8 c),a.1,()),(((pe9 c),(pe10 c),(pf11 c),()),a.2,()))) (fun y=>((y.1.1,y.1.2.1,y.1.2.2.1,(pe3 y.1),(pe6 y.1),(pe7 y.1),y.2.1.1,y.2.1.2.1,y.2.1.2.2.1),y.2.2.1))
theorem qn6:ct Try.prog qbd 1 (lc 0 Try.f70 75):=lp rfl qbc (.two .z (.two .z (.two (.one (.two .z (.two .z (.s 0)))) .z))) (sC qn5 s0) (fun c a=>((c.1,c.2.1,c.2.2.1,(pe3 c),(),(),(pe4 c),a.1,()),(((pe5 c),(pe6 c),(pf7 c),()),a.2,()))) (fun y=>((),y.2.1))
abbrev qhp:Mdl:=(aw (.cons (.d true jo.ty) (.cons (.d false (.slice .str)) (.cons (.d false (.slice .str)) (.cons (.d false qT0) (.cons (.d false (.slice aq.ty)) .nil))))) [] [] 1 qfc (B:=qL1) (fun b=>(((),()),(b,()))) (fun a=>qkj a.1.1 a.1.2.1 a.1.2.2.1 (pe3 a.1) (pe4 a.1)))
theorem qld:MdlOK Try.prog 70 qhp:=n4 Try.func70 rfl qbc (.two .z (.two .z (.two (.two .z (.s 1)) .z))) (sC qn6 s0)
def uw:Shp:=⟨[qf7],[]⟩
abbrev qd6:Ctx (Int):=⟨35,tt,false,false,[],mq [],nw [],cz 35 tt [] [.tmp 2] uw (fun x=>x.1.1)⟩
theorem qd5:CtxM Try.prog qd6:=n5 fits bk m0
abbrev vy:Mdl:=(aw (.cons (.d false (.int .u64)) .nil) [] [] 1 uw (B:=Int) (fun b=>((b,()),(()))) (fun a=>xh a.1.1))
theorem qbz:MdlOK Try.prog 75 vy:=n4 Try.func75 rfl qd5 .z s0
def y8:Shp:=⟨[qb0],[]⟩
abbrev qi5:Ctx (Bool):=⟨6,tt,false,false,[],mq [],nw [],cz 6 tt [] [.tmp 2] y8 (fun x=>x.1.1)⟩
theorem qi4:CtxM Try.prog qi5:=n5 fits bk m0
abbrev qac:Mdl:=(aw (.cons (.d false qT0) .nil) [] [] 1 y8 (B:=Bool) (fun b=>((b,()),(()))) (fun a=>wu a.1.1))
theorem qf5:MdlOK Try.prog 100 qac:=n4 Try.func100 rfl qi4 .z s0
def v5:Shp:=⟨[qf7],[]⟩
abbrev qf4:Ctx (Int):=⟨20,tt,false,false,[],mq [(100,qac)],nw [],cz 20 tt [] [.tmp 4] v5 (fun x=>x.1.1)⟩
theorem qf3:CtxM Try.prog qf4:=n5 fits bk (mC qf5 m0)
abbrev xk:Mdl:=(aw (.cons (.d false qT0) (.cons (.d false qT0) .nil)) [] [] 1 v5 (B:=Int) (fun b=>((b,()),(()))) (fun a=>y7 a.1.1 a.1.2.1))
theorem qdf:MdlOK Try.prog 99 xk:=n4 Try.func99 rfl qf3 .z s0
def qm:Shp:=⟨[qf7],[]⟩
abbrev q7:Ctx (Int):=⟨36,tt,false,false,[],mq [(99,xk)],nw [cu _ 36 [] vq (C:=(qL1×qL1×qL1×Int)) (S:=Int) (fun x=>((x.1.1,x.1.2.1,x.1.2.2.1,(pe3 x.1)),(pe4 x.1))) vp (CE:=(qL1×qL1)) (E:=Unit) (fun c e=>((c.1,c.2,()),(()))) (fun c=>(c.1,c.2.1)) (fun{R} c a nx dn rt=>px c.1 c.2.1 c.2.2.1 c.2.2.2 a nx dn rt)],cz 36 tt [] [.tmp 4] qm (fun x=>x.1.1)⟩
theorem q5:CtxM Try.prog q7:=n5 fits bk (mC qdf m0)
theorem xg:ct Try.prog q7 0 (lc 0 Try.f76 37):=lp rfl q5 .z s0 (fun c a=>((c.1,c.2.1,c.2.2.1,c.2.2.2,a,()),(()))) (fun y=>((y.1.1,y.1.2.1),()))
abbrev q6:Mdl:=(aw (.cons (.d false qT1) (.cons (.d false qT1) .nil)) [] [] 1 qm (B:=Int) (fun b=>((b,()),(()))) (fun a=>r0 a.1.1 a.1.2.1))
theorem vx:MdlOK Try.prog 76 q6:=n4 Try.func76 rfl q5 (.two .z (.two (.two .z (.s 0)) .z)) (sC xg s0)
def xz:Shp:=⟨[(0, .nl false (.d true qT1)),q7p],[]⟩
abbrev ud:Ctx ((qL1×Int)):=⟨93,tt,false,false,[],mq [(45,qff),(70,qhp),(75,vy),(76,q6)],nw [cu _ 93 [] qe8 (C:=(qL1×qL1×Int×Int)) (S:=(Int×Int×qL1)) (fun x=>((x.1.1,x.1.2.1,x.1.2.2.1,(pe5 x.1)),((pe4 x.1),(pe6 x.1),x.2.1))) qe7 (CE:=(qL1×qL1×Int)) (E:=(Int×qL1)) (fun c e=>((c.1,c.2.1,c.2.2,(),e.1,()),(e.2,()))) (fun c=>(c.1,c.2.1,c.2.2.1)) (fun{R} c a nx dn rt=>wd c.1 c.2.1 c.2.2.1 c.2.2.2 a.1 a.2.1 a.2.2 nx dn rt),cu _ 93 [] qfa (C:=qL1) (S:=(qL1×Int)) (fun x=>(x.1.1,(x.1.2.1,x.1.2.2.1))) qe9 (CE:=Unit) (E:=qL1) (fun c e=>((e,()),(()))) (fun c=>()) (fun{R} c a nx dn rt=>we c a.1 a.2 nx dn rt)],cz 93 tt [] [.tmp 10, .tmp 11] xz (fun x=>(x.1.1,x.1.2.1))⟩
theorem uc:CtxM Try.prog ud:=n5 fits bk (mC qkk (mC qld (mC qbz (mC vx m0))))
theorem qgu:ct Try.prog ud 0 (lc 2 Try.f30 153903):=lp rfl uc .z s0 (fun c a=>((c.1,c.2.1,c.2.2.1,(),a.1,c.2.2.2,a.2.1,()),(a.2.2,()))) (fun y=>((y.1.1,y.1.2.1,y.1.2.2.1),((pe4 y.1),y.2.1)))
theorem qgv:ct Try.prog ud 1 (lc 0 Try.f30 303):=lp rfl uc (.two .z (.two (.one (.two .z (.two .z (.two (.two .z (.s 0)) .z)))) .z)) (sC qgu s0) (fun c a=>((c,a.1,a.2,()),(()))) (fun y=>((),y.1.1))
abbrev zn:Mdl:=(aw (.cons (.d true jo.ty) (.cons (.d false (.slice .str)) (.cons (.d false (.slice .str)) (.cons (.d false qT0) (.cons (.d false (.slice aq.ty)) .nil))))) [] [] 2 xz (B:=(qL1×Int)) (fun b=>((b.1,b.2,()),(()))) (fun a=>qa8 a.1.1 a.1.2.1 a.1.2.2.1 (pe3 a.1) (pe4 a.1)))
theorem qfb:MdlOK Try.prog 30 zn:=n4 Try.func30 rfl uc (.two .z (.two .z (.two .z (.two .z (.two (.two .z (.s 1)) .z))))) (sC qgv s0)
def sd:Shp:=⟨[qb0],[]⟩
abbrev sk:Ctx (Bool):=⟨26,tt,false,false,[],mq [],nw [cu _ 26 [] x9 (C:=(qL1×qL1×Int)) (S:=Int) (fun x=>((x.1.1,x.1.2.1,x.1.2.2.1),(pe3 x.1))) x8 (CE:=Unit) (E:=Unit) (fun c e=>((()),(()))) (fun c=>()) (fun{R} c a nx dn rt=>q8 c.1 c.2.1 c.2.2 a nx dn rt)],cz 26 tt [] [.tmp 4] sd (fun x=>x.1.1)⟩
theorem si:CtxM Try.prog sk:=n5 fits bk m0
theorem y0:ct Try.prog sk 0 (lc 0 Try.f33 75):=lp rfl si (.two .z (.two .z (.two (.one (.two .z (.two (.d [0,0,3,7,0,0,48,112,255] [] []) .z))) .z))) s0 (fun c a=>((c.1,c.2.1,c.2.2,a,()),(()))) (fun y=>((),()))
abbrev sj:Mdl:=(aw (.cons (.d false qT1) (.cons (.d false qT1) .nil)) [] [] 1 sd (B:=Bool) (fun b=>((b,()),(()))) (fun a=>tx a.1.1 a.1.2.1))
theorem ya:MdlOK Try.prog 33 sj:=n4 Try.func33 rfl si (.two .z (.two .z (.two (.two .z (.s 0)) .z))) (sC y0 s0)
def qcf:Shp:=⟨[qb0],[]⟩
abbrev qm7:Ctx (Bool):=⟨63,tt,false,false,[],mq [(34,qan),(16,qke),(18,qa9),(30,zn),(33,sj)],nw [],cz 63 tt [] [.tmp 0] qcf (fun x=>x.1.1)⟩
theorem qm6:CtxM Try.prog qm7:=n5 fits bk (mC qgc (mC qn0 (mC qgw (mC qfb (mC ya m0)))))
abbrev qep:Mdl:=(aw .nil [] [] 1 qcf (B:=Bool) (fun b=>((b,()),(()))) (fun a=>qam))
theorem qjl:MdlOK Try.prog 9 qep:=n4 Try.func9 rfl qm6 .z s0
def ze:Shp:=⟨[qb0],[]⟩
abbrev qjw:Ctx (Bool):=⟨6,tt,false,false,[],mq [],nw [],cz 6 tt [] [.tmp 2] ze (fun x=>x.1.1)⟩
theorem qjv:CtxM Try.prog qjw:=n5 fits bk m0
abbrev qap:Mdl:=(aw (.cons (.d false .str) .nil) [] [] 1 ze (B:=Bool) (fun b=>((b,()),(()))) (fun a=>wy a.1.1))
theorem qge:MdlOK Try.prog 42 qap:=n4 Try.func42 rfl qjv .z s0
def kh:Shp:=⟨[qf7],[]⟩
abbrev k7:Ctx (Int):=⟨19,tt,false,false,[],mq [(42,qap)],nw [cu _ 19 [] qa (C:=((List ByteArray)×Int)) (S:=Int) (fun x=>((x.1.1,x.1.2.2.1),(pe3 x.1))) p9 (CE:=Unit) (E:=Unit) (fun c e=>((()),(()))) (fun c=>()) (fun{R} c a nx dn rt=>cm c.1 c.2 a nx dn rt)],cz 19 tt [] [.tmp 4] kh (fun x=>x.1.1)⟩
theorem kz:CtxM Try.prog k7:=n5 fits bk (mC qge m0)
theorem qn:ct Try.prog k7 0 (lc 0 Try.f80 37):=lp rfl kz .z s0 (fun c a=>((c.1,(()),c.2,a,()),(()))) (fun y=>((),()))
abbrev k6:Mdl:=(aw (.cons (.d false (.slice .str)) (.cons (.fn 42 .nil) .nil)) [] [] 1 kh (B:=Int) (fun b=>((b,()),(()))) (fun a=>fp a.1.1))
theorem qb:MdlOK Try.prog 80 k6:=n4 Try.func80 rfl kz (.two .z (.two (.two .z (.s 0)) .z)) (sC qn s0)
def iy:Shp:=⟨[qb0],[]⟩
abbrev pt:Ctx (Bool):=⟨9,tt,false,false,[],mq [(80,k6)],nw [],cz 9 tt [] [.tmp 4] iy (fun x=>x.1.1)⟩
theorem pr:CtxM Try.prog pt:=n5 fits bk (mC qb m0)
abbrev jw:Mdl:=(aw (.cons (.d false (.slice .str)) (.cons (.fn 42 .nil) .nil)) [] [] 1 iy (B:=Bool) (fun b=>((b,()),(()))) (fun a=>cl a.1.1))
theorem oz:MdlOK Try.prog 41 jw:=n4 Try.func41 rfl pr .z s0
def qck:Shp:=⟨[qb0],[]⟩
abbrev qni:Ctx (Bool):=⟨11,tt,false,false,[],mq [(41,jw)],nw [],cz 11 tt [] [.tmp 2] qck (fun x=>x.1.1)⟩
theorem qnh:CtxM Try.prog qni:=n5 fits bk (mC oz m0)
abbrev yo:Mdl:=(aw (.cons (.d false (.slice .str)) .nil) [] [] 1 qck (B:=Bool) (fun b=>((b,()),(()))) (fun a=>tq a.1.1))
theorem qaq:MdlOK Try.prog 12 yo:=n4 Try.func12 rfl qnh .z s0
def qcg:Shp:=⟨[qb0],[]⟩
abbrev qm9:Ctx (Bool):=⟨13,tt,false,false,[],mq [(12,yo)],nw [],cz 13 tt [] [.tmp 2] qcg (fun x=>x.1.1)⟩
theorem qm8:CtxM Try.prog qm9:=n5 fits bk (mC qaq m0)
abbrev qeq:Mdl:=(aw (.cons (.d false af.ty) .nil) [] [] 1 qcg (B:=Bool) (fun b=>((b,()),(()))) (fun a=>q0 a.1.1))
theorem qjp:MdlOK Try.prog 36 qeq:=n4 Try.func36 rfl qm8 .z s0
def fw:Shp:=⟨[qf7],[]⟩
abbrev gc:Ctx (Int):=⟨19,tt,false,false,[],mq [(36,qeq)],nw [cu _ 19 [] mj (C:=((List af)×Int)) (S:=Int) (fun x=>((x.1.1,x.1.2.2.1),(pe3 x.1))) mi (CE:=Unit) (E:=Unit) (fun c e=>((()),(()))) (fun c=>()) (fun{R} c a nx dn rt=>bt c.1 c.2 a nx dn rt)],cz 19 tt [] [.tmp 4] fw (fun x=>x.1.1)⟩
theorem f9:CtxM Try.prog gc:=n5 fits bk (mC qjp m0)
theorem mz:ct Try.prog gc 0 (lc 0 Try.f77 37):=lp rfl f9 .z s0 (fun c a=>((c.1,(()),c.2,a,()),(()))) (fun y=>((),()))
abbrev gb:Mdl:=(aw (.cons (.d false (.slice af.ty)) (.cons (.fn 36 .nil) .nil)) [] [] 1 fw (B:=Int) (fun b=>((b,()),(()))) (fun a=>c9 a.1.1))
theorem ml:MdlOK Try.prog 77 gb:=n4 Try.func77 rfl f9 (.two .z (.two (.two .z (.s 0)) .z)) (sC mz s0)
def fb:Shp:=⟨[qb0],[]⟩
abbrev ma:Ctx (Bool):=⟨9,tt,false,false,[],mq [(77,gb)],nw [],cz 9 tt [] [.tmp 4] fb (fun x=>x.1.1)⟩
theorem l9:CtxM Try.prog ma:=n5 fits bk (mC ml m0)
abbrev ff:Mdl:=(aw (.cons (.d false (.slice af.ty)) (.cons (.fn 36 .nil) .nil)) [] [] 1 fb (B:=Bool) (fun b=>((b,()),(()))) (fun a=>az a.1.1))
theorem ls:MdlOK Try.prog 35 ff:=n4 Try.func35 rfl l9 .z s0
def qch:Shp:=⟨[qb0],[]⟩
abbrev qnb:Ctx (Bool):=⟨19,tt,false,false,[],mq [],nw [],cz 19 tt [] [.tmp 2] qch (fun x=>x.1.1)⟩
theorem qna:CtxM Try.prog qnb:=n5 fits bk m0
abbrev qer:Mdl:=(aw (.cons (.d false ab.ty) .nil) [] [] 1 qch (B:=Bool) (fun b=>((b,()),(()))) (fun a=>v7 a.1.1))
theorem qjq:MdlOK Try.prog 38 qer:=n4 Try.func38 rfl qna .z s0
def dp:Shp:=⟨[qf7],[]⟩
abbrev dy:Ctx (Int):=⟨19,tt,false,false,[],mq [(38,qer)],nw [cu _ 19 [] j8 (C:=((List ab)×Int)) (S:=Int) (fun x=>((x.1.1,x.1.2.2.1),(pe3 x.1))) j7 (CE:=Unit) (E:=Unit) (fun c e=>((()),(()))) (fun c=>()) (fun{R} c a nx dn rt=>a8 c.1 c.2 a nx dn rt)],cz 19 tt [] [.tmp 4] dp (fun x=>x.1.1)⟩
theorem dv:CtxM Try.prog dy:=n5 fits bk (mC qjq m0)
theorem ko:ct Try.prog dy 0 (lc 0 Try.f78 37):=lp rfl dv .z s0 (fun c a=>((c.1,(()),c.2,a,()),(()))) (fun y=>((),()))
abbrev dx:Mdl:=(aw (.cons (.d false (.slice ab.ty)) (.cons (.fn 38 .nil) .nil)) [] [] 1 dp (B:=Int) (fun b=>((b,()),(()))) (fun a=>ce a.1.1))
theorem j9:MdlOK Try.prog 78 dx:=n4 Try.func78 rfl dv (.two .z (.two (.two .z (.s 0)) .z)) (sC ko s0)
def c0:Shp:=⟨[qb0],[]⟩
abbrev j3:Ctx (Bool):=⟨9,tt,false,false,[],mq [(78,dx)],nw [],cz 9 tt [] [.tmp 4] c0 (fun x=>x.1.1)⟩
theorem j2:CtxM Try.prog j3:=n5 fits bk (mC j9 m0)
abbrev db:Mdl:=(aw (.cons (.d false (.slice ab.ty)) (.cons (.fn 38 .nil) .nil)) [] [] 1 c0 (B:=Bool) (fun b=>((b,()),(()))) (fun a=>ar a.1.1))
theorem jp:MdlOK Try.prog 37 db:=n4 Try.func37 rfl j2 .z s0
def qci:Shp:=⟨[qb0],[]⟩
abbrev qnd:Ctx (Bool):=⟨13,tt,false,false,[],mq [],nw [],cz 13 tt [] [.tmp 2] qci (fun x=>x.1.1)⟩
theorem qnc:CtxM Try.prog qnd:=n5 fits bk m0
abbrev qes:Mdl:=(aw (.cons (.d false ak.ty) .nil) [] [] 1 qci (B:=Bool) (fun b=>((b,()),(()))) (fun a=>v8 a.1.1))
theorem qjr:MdlOK Try.prog 40 qes:=n4 Try.func40 rfl qnc .z s0
def ib:Shp:=⟨[qf7],[]⟩
abbrev i5:Ctx (Int):=⟨19,tt,false,false,[],mq [(40,qes)],nw [cu _ 19 [] n7 (C:=((List ak)×Int)) (S:=Int) (fun x=>((x.1.1,x.1.2.2.1),(pe3 x.1))) n6 (CE:=Unit) (E:=Unit) (fun c e=>((()),(()))) (fun c=>()) (fun{R} c a nx dn rt=>b7 c.1 c.2 a nx dn rt)],cz 19 tt [] [.tmp 4] ib (fun x=>x.1.1)⟩
theorem i3:CtxM Try.prog i5:=n5 fits bk (mC qjr m0)
theorem o4:ct Try.prog i5 0 (lc 0 Try.f79 37):=lp rfl i3 .z s0 (fun c a=>((c.1,(()),c.2,a,()),(()))) (fun y=>((),()))
abbrev i4:Mdl:=(aw (.cons (.d false (.slice ak.ty)) (.cons (.fn 40 .nil) .nil)) [] [] 1 ib (B:=Int) (fun b=>((b,()),(()))) (fun a=>ed a.1.1))
theorem n8:MdlOK Try.prog 79 i4:=n4 Try.func79 rfl i3 (.two .z (.two (.two .z (.s 0)) .z)) (sC o4 s0)
def f3:Shp:=⟨[qb0],[]⟩
abbrev nj:Ctx (Bool):=⟨9,tt,false,false,[],mq [(79,i4)],nw [],cz 9 tt [] [.tmp 4] f3 (fun x=>x.1.1)⟩
theorem ni:CtxM Try.prog nj:=n5 fits bk (mC n8 m0)
abbrev gk:Mdl:=(aw (.cons (.d false (.slice ak.ty)) (.cons (.fn 40 .nil) .nil)) [] [] 1 f3 (B:=Bool) (fun b=>((b,()),(()))) (fun a=>bm a.1.1))
theorem mr:MdlOK Try.prog 39 gk:=n4 Try.func39 rfl ni .z s0
def qhg:Shp:=⟨[qb0],[]⟩
abbrev qq5:Ctx (Bool):=⟨49,tt,false,false,[],mq [(35,ff),(37,db),(39,gk)],nw [],cz 49 tt [] [.tmp 2] qhg (fun x=>x.1.1)⟩
theorem qq4:CtxM Try.prog qq5:=n5 fits bk (mC ls (mC jp (mC mr m0)))
abbrev qjo:Mdl:=(aw (.cons (.d false jo.ty) .nil) [] [] 1 qhg (B:=Bool) (fun b=>((b,()),(()))) (fun a=>su a.1.1))
theorem qne:MdlOK Try.prog 10 qjo:=n4 Try.func10 rfl qq4 .z s0
def zd:Shp:=⟨[qb0],[]⟩
abbrev qjt:Ctx (Bool):=⟨13,tt,false,false,[],mq [],nw [],cz 13 tt [] [.tmp 2] zd (fun x=>x.1.1)⟩
theorem qjs:CtxM Try.prog qjt:=n5 fits bk m0
abbrev qao:Mdl:=(aw (.cons (.d false aq.ty) .nil) [] [] 1 zd (B:=Bool) (fun b=>((b,()),(()))) (fun a=>tc a.1.1))
theorem qgd:MdlOK Try.prog 44 qao:=n4 Try.func44 rfl qjs .z s0
def il:Shp:=⟨[qf7],[]⟩
abbrev jg:Ctx (Int):=⟨19,tt,false,false,[],mq [(44,qao)],nw [cu _ 19 [] oi (C:=((List aq)×Int)) (S:=Int) (fun x=>((x.1.1,x.1.2.2.1),(pe3 x.1))) oh (CE:=Unit) (E:=Unit) (fun c e=>((()),(()))) (fun c=>()) (fun{R} c a nx dn rt=>ca c.1 c.2 a nx dn rt)],cz 19 tt [] [.tmp 4] il (fun x=>x.1.1)⟩
theorem je:CtxM Try.prog jg:=n5 fits bk (mC qgd m0)
theorem o7:ct Try.prog jg 0 (lc 0 Try.f81 37):=lp rfl je .z s0 (fun c a=>((c.1,(()),c.2,a,()),(()))) (fun y=>((),()))
abbrev jf:Mdl:=(aw (.cons (.d false (.slice aq.ty)) (.cons (.fn 44 .nil) .nil)) [] [] 1 il (B:=Int) (fun b=>((b,()),(()))) (fun a=>ek a.1.1))
theorem oj:MdlOK Try.prog 81 jf:=n4 Try.func81 rfl je (.two .z (.two (.two .z (.s 0)) .z)) (sC o7 s0)
def f5:Shp:=⟨[qb0],[]⟩
abbrev np:Ctx (Bool):=⟨9,tt,false,false,[],mq [(81,jf)],nw [],cz 9 tt [] [.tmp 4] f5 (fun x=>x.1.1)⟩
theorem nn:CtxM Try.prog np:=n5 fits bk (mC oj m0)
abbrev gm:Mdl:=(aw (.cons (.d false (.slice aq.ty)) (.cons (.fn 44 .nil) .nil)) [] [] 1 f5 (B:=Bool) (fun b=>((b,()),(()))) (fun a=>bn a.1.1))
theorem mu:MdlOK Try.prog 43 gm:=n4 Try.func43 rfl nn .z s0
def qcj:Shp:=⟨[qb0],[]⟩
abbrev qng:Ctx (Bool):=⟨21,tt,false,false,[],mq [(43,gm)],nw [],cz 21 tt [] [.tmp 2] qcj (fun x=>x.1.1)⟩
theorem qnf:CtxM Try.prog qng:=n5 fits bk (mC mu m0)
abbrev qet:Mdl:=(aw (.cons (.d false (.slice aq.ty)) .nil) [] [] 1 qcj (B:=Bool) (fun b=>((b,()),(()))) (fun a=>v9 a.1.1))
theorem qju:MdlOK Try.prog 13 qet:=n4 Try.func13 rfl qnf .z s0
def zm:Shp:=⟨[qb0,q7p],[]⟩
abbrev qkb:Ctx ((Bool×Int)):=⟨45,tt,false,false,[],mq [(22,pp),(53,ry),(54,rx),(46,pf),(58,wj),(48,qdu)],nw [],cz 45 tt [] [.tmp 12, .tmp 13] zm (fun x=>(x.1.1,x.1.2.1))⟩
theorem qka:CtxM Try.prog qkb:=n5 fits bk (mC pe (mC rz (mC s4 (mC ny (mC xd (mC qfi m0))))))
abbrev qa7:Mdl:=(aw (.cons (.d true jo.ty) (.cons (.d false .str) (.cons (.d false .str) (.cons (.d false .str) (.cons (.d false qT0) (.cons (.d false (.slice aq.ty)) .nil)))))) [] [] 2 zm (B:=(Bool×Int)) (fun b=>((b.1,b.2,()),(()))) (fun a=>lx a.1.1 a.1.2.1 a.1.2.2.1 (pe3 a.1) (pe4 a.1) (pe5 a.1)))
theorem qgr:MdlOK Try.prog 20 qa7:=n4 Try.func20 rfl qka .z s0
def ky:Shp:=⟨[q8v],[qop]⟩
abbrev rc:Ctx ((List ak)):=⟨8,tt,false,false,[],mq [],nw [],cz 8 tt [] [.tmp 2] ky (fun x=>x.2.1)⟩
theorem q9:CtxM Try.prog rc:=n5 fits bk m0
abbrev rb:Mdl:=(aw (.cons (.nl false (.d false (.slice ak.ty))) .nil) [] [] 1 ky (B:=(List ak)) (fun b=>(((),()),(b,()))) (fun a=>lq a.1.1))
theorem qk:MdlOK Try.prog 26 rb:=n4 Try.func26 rfl q9 .z s0
def fg:Shp:=⟨[q8v],[qop]⟩
abbrev ri:Ctx ((List ak)):=⟨8,tt,false,false,[],mq [],nw [],cz 8 tt [] [.tmp 2] fg (fun x=>x.2.1)⟩
theorem rg:CtxM Try.prog ri:=n5 fits bk m0
abbrev rh:Mdl:=(aw (.cons (.nl true (.d false (.slice ak.ty))) .nil) [] [] 1 fg (B:=(List ak)) (fun b=>(((),()),(b,()))) (fun a=>dl a.1.1))
theorem ql:MdlOK Try.prog 26 rh:=n4 Try.func26 rfl rg .z s0
abbrev lz:Mdl:=(aw (.cons (.d false (.slice ak.ty)) .nil) [] [] 1 fg (fun(b:(List ak))=>(((),()),(b,()))) (fun(a:(((List ak)×Unit)×(Unit)))=>cp a.1.1))
theorem rf:MdlOK Try.prog 26 lz:=by
 refine ql3 (qta _ _) qk ql (by kernel_rfl) (fun a b h=>⟨?_,h⟩);obtain⟨⟨xs,u1⟩,u2⟩:=a;cases xs with
 |nil=>exact h
 |cons x l=>
  have e:decide ((((x::l).length:Nat):Int)=0)=false:=decide_eq_false (by simp only[List.length_cons];omega);simp only[cp,dl]at h;simp only[lq,e,cond_false];exact h
def rj:Shp:=⟨[q8v],[qop]⟩
abbrev lu:Mdl:=(aw (.cons (.own 0) (.cons (.d false qT0) (.cons (.d false qT0) .nil))) [qop] [false] 1 rj (B:=(List ak)) (fun b=>(((),()),(b,()))) (fun a=>gu a.1.2.1 a.1.2.2.1 a.2.1))
theorem qx:MdlOK Try.prog 25 lu:=qxr _
def fa:Shp:=⟨[q8v],[qrf]⟩
abbrev l4:Ctx ((List ab)):=⟨8,tt,false,false,[],mq [],nw [],cz 8 tt [] [.tmp 2] fa (fun x=>x.2.1)⟩
theorem l2:CtxM Try.prog l4:=n5 fits bk m0
abbrev l3:Mdl:=(aw (.cons (.nl false (.d false (.slice ab.ty))) .nil) [] [] 1 fa (B:=(List ab)) (fun b=>(((),()),(b,()))) (fun a=>fl a.1.1))
theorem lm:MdlOK Try.prog 27 l3:=n4 Try.func27 rfl l2 .z s0
def cj:Shp:=⟨[q8v],[qrf]⟩
abbrev l8:Ctx ((List ab)):=⟨8,tt,false,false,[],mq [],nw [],cz 8 tt [] [.tmp 2] cj (fun x=>x.2.1)⟩
theorem l6:CtxM Try.prog l8:=n5 fits bk m0
abbrev l7:Mdl:=(aw (.cons (.nl true (.d false (.slice ab.ty))) .nil) [] [] 1 cj (B:=(List ab)) (fun b=>(((),()),(b,()))) (fun a=>br a.1.1))
theorem ln:MdlOK Try.prog 27 l7:=n4 Try.func27 rfl l6 .z s0
abbrev fu:Mdl:=(aw (.cons (.d false (.slice ab.ty)) .nil) [] [] 1 cj (fun(b:(List ab))=>(((),()),(b,()))) (fun(a:(((List ab)×Unit)×(Unit)))=>be a.1.1))
theorem l5:MdlOK Try.prog 27 fu:=by
 refine ql3 (qta _ _) lm ln (by kernel_rfl) (fun a b h=>⟨?_,h⟩);obtain⟨⟨xs,u1⟩,u2⟩:=a;cases xs with
 |nil=>exact h
 |cons x l=>
  have e:decide ((((x::l).length:Nat):Int)=0)=false:=decide_eq_false (by simp only[List.length_cons];omega);simp only[be,br]at h;simp only[fl,e,cond_false];exact h
def u4:Shp:=⟨[qb0],[]⟩
abbrev li:Ctx (Bool):=⟨161,tt,false,false,[],mq [(9,qep),(10,qjo),(12,yo),(13,qet),(20,qa7),(26,lz),(25,lu),(27,fu),(22,pp)],nw [tp _ 161 [] qb2 (A:=(ByteArray×ByteArray×ByteArray×Int×(List aq)×Bool×(List af)×(List ab)×(List ak)×ByteArray×ByteArray×ByteArray×Int×Int×(List af)×(List ab)×(List ak))) (fun x=>(x.1.1,x.1.2.1,x.1.2.2.1,(pe3 x.1),(pe4 x.1),(pe7 x.1),x.2.1.1,x.2.1.2.1,x.2.1.2.2.1,x.2.2.1.1,x.2.2.1.2.1,x.2.2.1.2.2.1,(pe3 x.2.2.1),(pe4 x.2.2.1),(pe3 x).1,(pe3 x).2.1,(pe3 x).2.2.1)) qb1 (CE:=(ByteArray×ByteArray×ByteArray×Int×(List aq)×Bool×(List af)×(List ab)×(List ak)×ByteArray×ByteArray×ByteArray×Int×Int)) (E:=Unit) (fun c e=>((c.1,c.2.1,c.2.2.1,(pe3 c),(pe4 c),(),(),(pe5 c),()),(((pe6 c),(pe7 c),(pe8 c),()),((pe9 c),(pe10 c),(pe11 c),(pe12 c),(pf13 c),()),()))) (fun c=>(c.1,c.2.1,c.2.2.1,(pe3 c),(pe4 c),(pe5 c),(pe6 c),(pe7 c),(pe8 c),(pe9 c),(pe10 c),(pe11 c),(pe12 c),(pe13 c))) (fun{R} c dn rt=>p4 c.1 c.2.1 c.2.2.1 (pe3 c) (pe4 c) (pe5 c) (pe6 c) (pe7 c) (pe8 c) (pe9 c) (pe10 c) (pe11 c) (pe12 c) (pe13 c) (pe14 c) (pe15 c) (pf16 c) dn rt),tp _ 161 [] qb4 (A:=(ByteArray×ByteArray×ByteArray×Int×(List aq)×Bool×(List af)×(List ab)×(List ak))) (fun x=>(x.1.1,x.1.2.1,x.1.2.2.1,(pe3 x.1),(pe4 x.1),(pe5 x.1),x.2.1.1,x.2.1.2.1,x.2.1.2.2.1)) qb3 (CE:=Unit) (E:=Unit) (fun c e=>((()),(()))) (fun c=>()) (fun{R} c dn rt=>p5 c.1 c.2.1 c.2.2.1 (pe3 c) (pe4 c) (pe5 c) (pe6 c) (pe7 c) (pf8 c) dn rt),tp _ 161 [] qb6 (A:=(ByteArray×ByteArray×ByteArray×Int×(List aq)×Bool×(List af)×(List ab)×(List ak)×ByteArray×ByteArray×ByteArray×Int×Int)) (fun x=>(x.1.1,x.1.2.1,x.1.2.2.1,(pe3 x.1),(pe4 x.1),(pe7 x.1),x.2.1.1,x.2.1.2.1,x.2.1.2.2.1,x.2.2.1.1,x.2.2.1.2.1,x.2.2.1.2.2.1,(pe3 x.2.2.1),(pe4 x.2.2.1))) qb5 (CE:=Unit) (E:=Unit) (fun c e=>((()),(()))) (fun c=>()) (fun{R} c dn rt=>p6 c.1 c.2.1 c.2.2.1 (pe3 c) (pe4 c) (pe5 c) (pe6 c) (pe7 c) (pe8 c) (pe9 c) (pe10 c) (pe11 c) (pe12 c) (pf13 c) dn rt),tp _ 161 [] qb8 (A:=(ByteArray×ByteArray×ByteArray×Int×(List aq)×Int×Bool×(List af)×(List ab)×(List ak)×ByteArray×ByteArray×ByteArray×Int×Int)) (fun x=>(x.1.1,x.1.2.1,x.1.2.2.1,(pe3 x.1),(pe4 x.1),(pe5 x.1),(pe8 x.1),x.2.1.1,x.2.1.2.1,x.2.1.2.2.1,x.2.2.1.1,x.2.2.1.2.1,x.2.2.1.2.2.1,(pe3 x.2.2.1),(pe4 x.2.2.1))) qb7 (CE:=Unit) (E:=Unit) (fun c e=>((()),(()))) (fun c=>()) (fun{R} c dn rt=>p7 c.1 c.2.1 c.2.2.1 (pe3 c) (pe4 c) (pe5 c) (pe6 c) (pe7 c) (pe8 c) (pe9 c) (pe10 c) (pe11 c) (pe12 c) (pe13 c) (pf14 c) dn rt)],cz 161 tt [] [.tmp 16] u4 (fun x=>x.1.1)⟩
theorem lh:CtxM Try.prog li:=n5 fits bk (mC qjl (mC qne (mC qaq (mC qju (mC qgr (mC rf (mC qx (mC l5 (mC pe m0)))))))))
theorem qdj:ct Try.prog li 0 (jc Try.f6 31487):=jn rfl lh .z s0 (fun c=>((c.1,c.2.1,c.2.2.1,(pe3 c),(pe4 c),(),(),(pe5 c),(),()),(((pe6 c),(pe7 c),(pe8 c),()),((pe9 c),(pe10 c),(pe11 c),(pe12 c),(pe13 c),()),((pe14 c),(pe15 c),(pf16 c),()),()))) (fun y=>((y.1.1,y.1.2.1,y.1.2.2.1,(pe3 y.1),(pe4 y.1),(pe7 y.1),y.2.1.1,y.2.1.2.1,y.2.1.2.2.1,y.2.2.1.1,y.2.2.1.2.1,y.2.2.1.2.2.1,(pe3 y.2.2.1),(pe4 y.2.2.1)),()))
theorem qdk:ct Try.prog li 1 (jc Try.f6 4095):=jn rfl lh .z s0 (fun c=>((c.1,c.2.1,c.2.2.1,(pe3 c),(pe4 c),(pe5 c),(),()),(((pe6 c),(pe7 c),(pf8 c),()),()))) (fun y=>((),()))
theorem qdl:ct Try.prog li 2 (jc Try.f6 1023):=jn rfl lh (.two .z (.two (.d [0,1,3,0,8,31,63,127] [5,7] []) (.s 1))) (sC qdk s0) (fun c=>((c.1,c.2.1,c.2.2.1,(pe3 c),(pe4 c),(),(),(pe5 c),()),(((pe6 c),(pe7 c),(pe8 c),()),((pe9 c),(pe10 c),(pe11 c),(pe12 c),(pf13 c),()),()))) (fun y=>((),()))
theorem qdm:ct Try.prog li 3 (jc Try.f6 511):=jn rfl lh (.two (.two .z (.two (.two .z (.two .z (.two .z (.s 0)))) .z)) (.s 2)) (sC qdj (sC qdl s0)) (fun c=>((c.1,c.2.1,c.2.2.1,(pe3 c),(pe4 c),(pe5 c),(),(),(pe6 c),()),(((pe7 c),(pe8 c),(pe9 c),()),((pe10 c),(pe11 c),(pe12 c),(pe13 c),(pf14 c),()),()))) (fun y=>((),()))
abbrev qeo:Mdl:=(aw (.cons (.d true jo.ty) (.cons (.d true .str) (.cons (.d true .str) (.cons (.d true .str) (.cons (.d true qT0) (.cons (.d true (.slice aq.ty)) (.cons (.d true (.int .u8)) (.cons (.d true ab.ty) .nil)))))))) [] [] 1 u4 (B:=Bool) (fun b=>((b,()),(()))) (fun a=>ss a.1.1 a.1.2.1 a.1.2.2.1 (pe3 a.1) (pe4 a.1) (pe5 a.1) (pe6 a.1) (pe7 a.1)))
theorem qb9:MdlOK Try.prog 6 qeo:=n4 Try.func6 rfl lh (.two .z (.two .z (.two .z (.two .z (.two .z (.two .z (.two (.d [0,0,0,0,0,0,0,96,255,511,1023,1023,2047,8191] [] []) (.two .z (.s 3))))))))) (sC qdm s0)
end
end Go.Proofs.Ytmlfmeffjodhmaa
