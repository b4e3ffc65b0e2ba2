/-
  The functions compute what their models say. Made by program (mg3.py) out of the translation.
-/
import Derived.Test.YtocndcbobdnagaaGreatDoorZ3Md
import Derived.Test.YtocndcbobdnagaaGreatDoorZ3Tt
import Derived.Test.YtocndcbobdnagaaGreatDoorZ3Ky
import Derived.Test.YtocndcbobdnagaaGreatDoorZ3Kq
set_option linter.all false
set_option maxRecDepth 100000
namespace Go.Proofs.YtocndcbobdnagaaGreatDoor
open Go.K Go.M
abbrev pf8{A0 A1 A2 A3 A4 A5 A6 A7 A8:Type}(x:A0×A1×A2×A3×A4×A5×A6×A7×A8):A8:=x.2.2.2.2.2.2.2.2
abbrev pf7{A0 A1 A2 A3 A4 A5 A6 A7:Type}(x:A0×A1×A2×A3×A4×A5×A6×A7):A7:=x.2.2.2.2.2.2.2
abbrev pf6{A0 A1 A2 A3 A4 A5 A6:Type}(x:A0×A1×A2×A3×A4×A5×A6):A6:=x.2.2.2.2.2.2
abbrev pf5{A0 A1 A2 A3 A4 A5:Type}(x:A0×A1×A2×A3×A4×A5):A5:=x.2.2.2.2.2
abbrev pf4{A0 A1 A2 A3 A4:Type}(x:A0×A1×A2×A3×A4):A4:=x.2.2.2.2
abbrev pe7{A0 A1 A2 A3 A4 A5 A6 A7 A8:Type}(x:A0×A1×A2×A3×A4×A5×A6×A7×A8):A7:=x.2.2.2.2.2.2.2.1
abbrev pe6{A0 A1 A2 A3 A4 A5 A6 A7:Type}(x:A0×A1×A2×A3×A4×A5×A6×A7):A6:=x.2.2.2.2.2.2.1
abbrev pe5{A0 A1 A2 A3 A4 A5 A6:Type}(x:A0×A1×A2×A3×A4×A5×A6):A5:=x.2.2.2.2.2.1
abbrev pe4{A0 A1 A2 A3 A4 A5:Type}(x:A0×A1×A2×A3×A4×A5):A4:=x.2.2.2.2.1
abbrev pe3{A0 A1 A2 A3 A4:Type}(x:A0×A1×A2×A3×A4):A3:=x.2.2.2.1
abbrev Zj:=MdlOK Tryz.prog
abbrev Zk{R:Type}(X:Ctx R):=CtxM Tryz.prog X
theorem Zl{R:Type}{N:Nat}{wr dt:Bool}{kp:List Bool}{l:List (FuncId×Mdl)}{A:Nat->Option (Summ R)}{r:TS->Option R}(h:jcn Tryz.prog l):CtxM Tryz.prog ⟨N,tt,wr,dt,kp,gp l,A,r⟩:=iy fits mixed h ah
theorem Zm{f:FuncId}{fn:Func}{N:Nat}{wr dt:Bool}{kp:List Bool}{gl:List (FuncId×Mdl)}{rs:List ResultVar}{l:ShL}{objs:List Hs}{sh:Shp}{ann:Ann}(hf:Tryz.prog.funcs[f]? =some fn)(hg:jcn Tryz.prog gl)(hn:(fn.name== "runtime.NumGoroutine")=false:=by kernel_rfl)(hb:fn.body=some (qba fn):=by kernel_rfl)(hN:fn.ntmps=N:=by kernel_rfl)(hrs:fn.results=rs.toArray:=by kernel_rfl)(hs:qw (qba fn) ann=[]:=by kernel_rfl)(hl:Nat.ble l.len N=true:=by kernel_rfl)(hfr:sh.frB=true:=by kernel_rfl):MdlOK Tryz.prog f (c9 fn N tt wr dt kp gl rs l objs sh ann):=c8 hf fits mixed hg hn hb hN hrs hs hl hfr ah
abbrev Zn{R:Type}(N:Nat)(g:List (FuncId×Mdl))(l:List (Summ R))(r:List ResultVar)(s:Shp)(u:s.den->R):Ctx R:=⟨N,tt,false,false,[],gp g,iw l,bx N tt [] r s u⟩
abbrev Zo:=Ann.two .z
abbrev Zp(a:Ann):Ann:=.one (.u 100000 a)
abbrev Y3:Shp:=⟨[Yo],[]⟩
abbrev Y4:Shp:=⟨[Yp],[]⟩
abbrev Y5:Shp:=⟨[Yo],[YJ, YG]⟩
abbrev Y6:Shp:=⟨[Yt],[qhc]⟩
abbrev Y7:Shp:=⟨[Yo,Yq],[]⟩
abbrev Y8:Shp:=⟨[(0, .d true qT2),Yq],[]⟩
abbrev Y9:Shp:=⟨[],[YF]⟩
abbrev Xa:Shp:=⟨[Ys,Yq],[.cs 196 2 1 (Zf ZG ZL), YI,qvu]⟩
abbrev Xb:Shp:=⟨[Yr],[qhc]⟩
abbrev Xc:Shp:=⟨[Yo,(1, .d true qy1.ty),YD],[]⟩
abbrev Xd:Shp:=⟨[Yp],[YW, YU,jpr, Y2, YI,qvu]⟩
abbrev Xe:Ann:=Zo (.two (Zo (Zp .z)) .z)
abbrev Xf:Ann:=Zo (.two (Zo (.s 0)) .z)
abbrev Xg:Ann:=Zo (.two (Zo (.two (.d [0,1,3,7,0,16,0,127] [7] []) (.two (.d [0,0,0,0,8,24,56,0,128,504,0,1024,3072,7168,0,16384,65528,0,131072,393216,917504,0,2097152,8388600,16777209,33554425,67108857,134217723,268435451,536870907,1073741823,2147483647,4294967295] [9,16,23,26,29,32] []) (.two (.d [0,0,0,4,12,28,0,64,252,0,512,1536,3584,0,16380,32765,65533,131069,262143,524287,1048575] [8,14,17,20] []) .z)))) .z)
abbrev Xh:Ann:=Zo (Zo (.two (.one (Zo (Zo (Zo (.two (.d [0,1,0,0,8,28,63,127,255] [8] []) (Zo (.two (.d [0,0,0,6,14,0,63] [] []) .z))))))) .z))
abbrev Xi:Ann:=Zo (.two (.ad [0,0,2,6,15,31,63,63,127,511] []) (.two (Zo (.two (Zo (Zo (.two (.ad [0,0,2,6,0,31] [5]) (.ad [0,0,2,6,14,0,32,96,254,511,1023,2047] [8,11])))) .z)) (Zo (Zo (.two (.ad [0,0,2,6,14,0,32,126,255,511,1023] [7,10]) .z)))))
abbrev Xj:Ann:=Zo (Zp (Zo (Zo (.two (.one (Zo (Zo (Zp .z)))) .z))))
abbrev Xk:Ann:=.two (.one (.ad [0,0,0,0,8,0,0,64,224,480,0,0,3072,7168,16355,32739,65535,131071] [15,17])) .z
abbrev Xl:Ann:=Zo (.two (Zo (Zp (Zo (Zo (.two (.one (Zo (.two (.ad [0,0,3,7,15,31,63,63,255,511,1023,2047,4095,4095,16383,32767,4095,4095,200703,462847,1048575,2097151,4194303] []) .z))) .z))))) .z)
abbrev Xm:Ann:=.u 100000 (Zo (Zo (.two (.one (Zo (Zo (.two (.ad [0,1,0,4,12,28,0,124,252,508,1023,0,2048,0,8192,32767,8191,131071,262143,524287] [10,15,17,19]) .z)))) .z)))
abbrev Xn:Ann:=.two (Zo (.s 1)) .z
abbrev Xo:Ann:=Zo (.two (.one (Zo (Zo (.two (.two (.ad [0,0,0,4,0,16,0,64,0,256,960,1984,0,4096,16383,32767] [11,14,15]) .z) .z)))) .z)
abbrev Xp:Ann:=Zo (Zo (.two (Zo (Zp .z)) (.two (Zo (Zp .z)) .z)))
abbrev Xq:Ann:=Zo (Zo (.two (.one (Zo (.two (.s 1) .z))) .z))
abbrev Xr:Ann:=.ad [0,0,0,4,0,16,60,0,128,0,512,2044,4093,8189,16381,32767,65535,131071] [6,11,14,17]
abbrev Xs:Ann:=Zo (Zo (.two (Zo (.s 2)) .z))
abbrev Xt:Ann:=.u 100000 .z
abbrev Xu:Ann:=.two (Zo (Zp (Zo (Zo (.two (.one (Zo (Zo (Zo (Zp .z))))) .z))))) .z
abbrev Xv:Ann:=Zo (Zo (.two (.one (Zo (.ad [0,1,0,4,12,31,63,127] [5,7]))) .z))
abbrev Xw:Ann:=.two (.d [0,1,0,4,12,31,63,0] [] []) (.s 0)
abbrev Xx:Ann:=.ad [0,1,3,7,0,0,0,0,224,511,1023] [10]
abbrev Xy:Ann:=Zo (Zo (.s 0))
abbrev Xz:Ann:=Zo (Zo (.two (Zo (Zp (Zo (Zo (.two (.one (Zo Xe)) .z))))) .z))
abbrev XA:Ann:=Zo (Zp .z)
abbrev XB:Ann:=Zo (.s 0)
abbrev XC:Ann:=Zo Xf
abbrev XD:Ann:=Zo (Zo Xn)
abbrev XE:Ann:=Zo Xe
abbrev XF:List ResultVar:=[.tmp 4]
abbrev XG:List ResultVar:=[.tmp 2]
abbrev XH:List ResultVar:=[.tmp 2, .tmp 3]
abbrev XI:List ResultVar:=[.tmp 4, .tmp 5]
abbrev XJ:List ResultVar:=[.tmp 6, .tmp 7]
abbrev XK:List ResultVar:=[.tmp 6]
abbrev XL:List ResultVar:=[.tmp 3]
abbrev XM:List ResultVar:=[.tmp 8, .tmp 9]
noncomputable section
def qzz:Shp:=⟨[qo4],[]⟩
abbrev jk9:Ctx (Bool):=Zn 17 [] [] XG qzz (fun x=>x.1.1)
theorem jk8:Zk jk9:=Zl m0
abbrev qrn:Mdl:=(ar (Ze Yg) [] [] 1 qzz (B:=Bool) (fun b=>((b,()),(()))) (fun a=>qhd a.1.1))
theorem qv4:Zj 98 qrn:=jf Tryz.func98 rfl jk8 .z s0
abbrev jqx:Ctx (Bool):=Zn 25 [(98,qrn)] [] XG qzz (fun x=>x.1.1)
theorem jqw:Zk jqx:=Zl (mC qv4 m0)
abbrev jd7:Mdl:=(ar (Ze Yg) [] [] 1 qzz (B:=Bool) (fun b=>((b,()),(()))) (fun a=>qyl a.1.1))
theorem jla:Zj 99 jd7:=jf Tryz.func99 rfl jqw .z s0
abbrev q4q:Ctx (Bool):=Zn 29 [(98,qrn),(99,jd7)] [au _ 29 [] jd6 (C:=(ByteArray×Int)) (S:=Int) (fun x=>((x.1.1,x.1.2.1),x.1.2.2.1)) jd5 (CE:=Unit) (E:=Unit) (fun c e=>((()),(()))) (fun c=>()) (fun{R} c a nx dn rt=>xj c.1 c.2 a nx dn rt)] XG qzz (fun x=>x.1.1)
theorem q4p:Zk q4q:=Zl (mC qv4 (mC jla m0))
theorem jgq:a8 Tryz.prog q4q 0 (lc 0 Tryz.f37 75):=lp rfl q4p .z s0 (fun c a=>((c.1,c.2,a,()),(()))) (fun y=>((),()))
abbrev ye:Mdl:=(ar (Ze ZN) [] [] 1 qzz (B:=Bool) (fun b=>((b,()),(()))) (fun a=>sr a.1.1))
theorem xk:Zj 37 ye:=jf Tryz.func37 rfl q4p XC (sC jgq s0)
abbrev q0a:Ctx (Bool):=Zn 36 [] [au _ 36 [] ja0 (C:=(qL1×qL1×Int×Int×(List af)×Int×Int)) (S:=Int) (fun x=>((x.1.1,x.1.2.2.1,(pe3 x.1),x.2.1.1,x.2.1.2.1,x.2.1.2.2.1,(pe3 x.2.1)),(pe4 x.1))) jd5 (CE:=Unit) (E:=Unit) (fun c e=>((()),(()))) (fun c=>()) (fun{R} c a nx dn rt=>o4 c.1 c.2.1 c.2.2.1 (pe3 c) (pe4 c) (pe5 c) (pf6 c) a nx dn rt)] XF qzz (fun x=>x.1.1)
theorem qz8:Zk q0a:=Zl m0
theorem jep:a8 Tryz.prog q0a 0 (lc 0 Tryz.f84 37):=lp rfl qz8 .z s0 (fun c a=>((c.1,(),c.2.1,c.2.2.1,a,()),(((pe3 c),(pe4 c),(pe5 c),(pf6 c),()),()))) (fun y=>((),()))
abbrev qz9:Mdl:=(ar (Zf Zw Zv) [] [] 1 qzz (B:=Bool) (fun b=>((b,()),(()))) (fun a=>mu a.1.1 a.1.2.1))
theorem ja1:Zj 84 qz9:=jf Tryz.func84 rfl qz8 Xf (sC jep s0)
abbrev q40:Ctx (Bool):=Zn 62 [(37,ye),(84,qz9)] [au _ 62 [] jek (C:=((List af)×Int×Int×(List af)×Int×Int)) (S:=Int) (fun x=>((x.1.2.1,x.1.2.2.1,x.2.1.1,x.2.1.2.1,x.2.1.2.2.1,(pe3 x.2.1)),(pe3 x.1))) jej (CE:=(Int×(List af)×Int×Int)) (E:=Unit) (fun c e=>(((),()),((c.1,c.2.1,c.2.2.1,c.2.2.2,()),()))) (fun c=>(c.2.2.1,(pe3 c),(pe4 c),(pf5 c))) (fun{R} c a nx dn rt=>qdi c.1 c.2.1 c.2.2.1 (pe3 c) (pe4 c) (pf5 c) a nx dn rt)] XG qzz (fun x=>x.1.1)
theorem q4z:Zk q40:=Zl (mC xk (mC ja1 m0))
theorem jgr:a8 Tryz.prog q40 0 (lc 0 Tryz.f27 75):=lp rfl q4z .z s0 (fun c a=>(((),c.1,c.2.1,a,()),((c.2.2.1,(pe3 c),(pe4 c),(pf5 c),()),()))) (fun y=>((y.2.1.1,y.2.1.2.1,y.2.1.2.2.1,(pe3 y.2.1)),()))
abbrev cn:Mdl:=(ar (Ze Zw) [] [] 1 qzz (B:=Bool) (fun b=>((b,()),(()))) (fun a=>m5 a.1.1))
theorem ca:Zj 27 cn:=jf Tryz.func27 rfl q4z XC (sC jgr s0)
abbrev v6:Mdl:=c9 Tryz.f116 19 tt false false [] [] XF (Zf Zv Zr) [] Y4 Xe
theorem qcq:Zj 116 v6:=Zm Tryz.func116 m0
abbrev bp:Mdl:=c9 Tryz.f62 9 tt false false [] [(116,v6)] XF (Zf Zv Zr) [] Y3 .z
theorem br:Zj 62 bp:=Zm Tryz.func62 (mC qcq m0)
abbrev qph:Mdl:=c9 Tryz.f213 8 tt false false [] [] XL (Zf Zr Yb) [] Y3 .z
theorem q1y:Zj 213 qph:=Zm Tryz.func213 m0
abbrev s9:Mdl:=c9 Tryz.f196 19 tt false false [] [(213,qph)] XF (Zf Zv (.fn 213 (Ze Yb))) [] Y4 Xe
theorem qer:Zj 196 s9:=Zm Tryz.func196 (mC q1y m0)
abbrev pp:Mdl:=c9 Tryz.f127 9 tt false false [] [(196,s9)] XF (Zf Zv (.fn 213 (Ze Yb))) [] Y3 .z
theorem qbt:Zj 127 pp:=Zm Tryz.func127 (mC qer m0)
abbrev qwd:Mdl:=c9 Tryz.f146 69 tt false false [] [(127,pp)] XJ (Za Zw Zr ZB) [] ⟨[Yt,(1, .own 1)],[qqo,qqo]⟩ (Zo (.two (.ad [0,1,3,0,8,24,56,0,135,511] [8]) (Zo (.two (Zo (Zp (Zo (.one (Zo (Zo (Zp (Zo (Zo (.two (.one (Zo (.two (.ad [0,1,0,4,3,31] []) (Zo (Zo (Zo XA)))))) .z)))))))))) .z))))
theorem q70:Zj 146 qwd:=Zm Tryz.func146 (mC qbt m0)
abbrev qcp:Mdl:=c9 Tryz.f214 19 tt false false [] [] XF (Zf Yf ZB) [] Y4 Xe
theorem ql8:Zj 214 qcp:=Zm Tryz.func214 m0
abbrev nu:Mdl:=c9 Tryz.f147 9 tt false false [] [(214,qcp)] XF (Zf Yf ZB) [] Y3 .z
theorem uz:Zj 147 nu:=Zm Tryz.func147 (mC ql8 m0)
abbrev uv:Mdl:=c9 Tryz.f63 65 tt false false [] [(27,cn),(62,bp),(146,qwd),(147,nu)] XG (Ze Zw) [] Y3 Xp
theorem wj:Zj 63 uv:=Zm Tryz.func63 (mC ca (mC br (mC q70 (mC uz m0))))
def q91:Shp:=⟨[q9s,qu6],[qhc]⟩
abbrev jra:Ctx ((Int×qL1)):=Zn 17 [(27,cn)] [] XI q91 (fun x=>(x.1.2.1,x.2.1))
theorem jq9:Zk jra:=Zl (mC ca m0)
abbrev q1x:Mdl:=(ar (Zf Zw Zr) [] [] 2 q91 (B:=(Int×qL1)) (fun b=>(((),b.1,()),(b.2,()))) (fun a=>qpg a.1.1 a.1.2.1))
theorem q46:Zj 26 q1x:=jf Tryz.func26 rfl jq9 .z s0
abbrev jei:Ctx ((Int×qL1)):=Zn 10 [(26,q1x)] [] XH q91 (fun x=>(x.1.2.1,x.2.1))
theorem jeh:Zk jei:=Zl (mC q46 m0)
abbrev rb:Mdl:=(ar (Ze Zw) [] [] 2 q91 (B:=(Int×qL1)) (fun b=>(((),b.1,()),(b.2,()))) (fun a=>vg a.1.1))
theorem rf:Zj 7 rb:=jf Tryz.func7 rfl jeh .z s0
abbrev q0v:Mdl:=c9 Tryz.f112 27 tt false false [] [(27,cn),(63,uv),(7,rb)] XJ (Za Zw ZB Zr) [] ⟨[Yt,Yq],[qhc]⟩ .z
theorem jbp:Zj 112 q0v:=Zm Tryz.func112 (mC ca (mC wj (mC rf m0)))
abbrev q7z:Ctx (Bool):=Zn 9 [] [] XG qzz (fun x=>x.1.1)
theorem q7y:Zk q7z:=Zl m0
abbrev qpf:Mdl:=(ar (Ze Zr) [] [] 1 qzz (B:=Bool) (fun b=>((b,()),(()))) (fun a=>qh9 a.1.1))
theorem q1w:Zj 236 qpf:=jf Tryz.func236 rfl q7y .z s0
def ry:Shp:=⟨[qy2],[]⟩
abbrev tj:Ctx (Int):=Zn 19 [(236,qpf)] [au _ 19 [] qex (C:=(qL1×Int)) (S:=Int) (fun x=>((x.1.1,x.1.2.2.1),(pe3 x.1))) jd5 (CE:=Unit) (E:=Unit) (fun c e=>((()),(()))) (fun c=>()) (fun{R} c a nx dn rt=>fe c.1 c.2 a nx dn rt)] XF ry (fun x=>x.1.1)
theorem tf:Zk tj:=Zl (mC q1w m0)
theorem qgd:a8 Tryz.prog tj 0 (lc 0 Tryz.f196 37):=lp rfl tf .z s0 (fun c a=>((c.1,(()),c.2,a,()),(()))) (fun y=>((),()))
abbrev th:Mdl:=(ar (Zf Zv (.fn 236 .nil)) [] [] 1 ry (B:=Int) (fun b=>((b,()),(()))) (fun a=>l7 a.1.1))
theorem qey:Zj 196 th:=jf Tryz.func196 rfl tf Xf (sC qgd s0)
abbrev qd1:Ctx (Bool):=Zn 9 [(196,th)] [] XF qzz (fun x=>x.1.1)
theorem qd0:Zk qd1:=Zl (mC qey m0)
abbrev pu:Mdl:=(ar (Zf Zv (.fn 236 .nil)) [] [] 1 qzz (B:=Bool) (fun b=>((b,()),(()))) (fun a=>fb a.1.1))
theorem qbx:Zj 127 pu:=jf Tryz.func127 rfl qd0 .z s0
abbrev jeo:Ctx (Bool):=Zn 19 [(27,cn),(127,pu)] [] XF qzz (fun x=>x.1.1)
theorem jen:Zk jeo:=Zl (mC ca (mC qbx m0))
abbrev qdj:Mdl:=(ar (Zf Zw Zv) [] [] 1 qzz (B:=Bool) (fun b=>((b,()),(()))) (fun a=>vi a.1.1 a.1.2.1))
theorem qf1:Zj 189 qdj:=jf Tryz.func189 rfl jen .z s0
abbrev q7x:Ctx (Bool):=Zn 9 [] [] XL qzz (fun x=>x.1.1)
theorem q7w:Zk q7x:=Zl m0
abbrev qpd:Mdl:=(ar (Zf Zr ZJ) [] [] 1 qzz (B:=Bool) (fun b=>((b,()),(()))) (fun a=>qh8 a.1.1 a.1.2.1))
theorem q1u:Zj 262 qpd:=jf Tryz.func262 rfl q7w .z s0
abbrev tq:Ctx (Int):=Zn 19 [(262,qpd)] [au _ 19 [] qe3 (C:=(qL1×qL1×Int)) (S:=Int) (fun x=>((x.1.1,x.1.2.1.1,x.1.2.2.1),(pe3 x.1))) jd5 (CE:=Unit) (E:=Unit) (fun c e=>((()),(()))) (fun c=>()) (fun{R} c a nx dn rt=>ff c.1 c.2.1 c.2.2 a nx dn rt)] XF ry (fun x=>x.1.1)
theorem tn:Zk tq:=Zl (mC q1u m0)
theorem qge:a8 Tryz.prog tq 0 (lc 0 Tryz.f196 37):=lp rfl tn .z s0 (fun c a=>((c.1,(c.2.1,()),c.2.2,a,()),(()))) (fun y=>((),()))
abbrev tp:Mdl:=(ar (Zf Zv (.fn 262 (Ze ZJ))) [] [] 1 ry (B:=Int) (fun b=>((b,()),(()))) (fun a=>l8 a.1.1 a.1.2.1.1))
theorem qe4:Zj 196 tp:=jf Tryz.func196 rfl tn Xf (sC qge s0)
abbrev qd3:Ctx (Bool):=Zn 9 [(196,tp)] [] XF qzz (fun x=>x.1.1)
theorem qd2:Zk qd3:=Zl (mC qe4 m0)
abbrev p4:Mdl:=(ar (Zf Zv (.fn 262 (Ze ZJ))) [] [] 1 qzz (B:=Bool) (fun b=>((b,()),(()))) (fun a=>jm a.1.1 a.1.2.1.1))
theorem qb1:Zj 127 p4:=jf Tryz.func127 rfl qd2 .z s0
abbrev jem:Ctx (Bool):=Zn 10 [(127,p4)] [] XF qzz (fun x=>x.1.1)
theorem jel:Zk jem:=Zl (mC qb1 m0)
abbrev qko:Mdl:=(ar (Zf Z4 Zv) [] [] 1 qzz (B:=Bool) (fun b=>((b,()),(()))) (fun a=>qah a.1.1 a.1.2.1))
theorem qpe:Zj 225 qko:=jf Tryz.func225 rfl jel .z s0
def qs1:Shp:=⟨[Yr,qu6],[qhc]⟩
abbrev qv7:Ctx ((Int×qL1)):=Zn 30 [(189,qdj),(225,qko)] [au _ 30 [] q7v (C:=(qL1×(List af)×Int)) (S:=(Int×qL1)) (fun x=>((x.1.1,x.1.2.2.1,(pe3 x.1)),((pe4 x.1),x.2.1))) q7u (CE:=Unit) (E:=qL1) (fun c e=>(((),()),(e,()))) (fun c=>()) (fun{R} c a nx dn rt=>q9 c.1 c.2.1 c.2.2 a.1 a.2 nx dn rt)] XI qs1 (fun x=>(x.1.2.1,x.2.1))
theorem qv6:Zk qv7:=Zl (mC qf1 (mC qpe m0))
theorem jay:a8 Tryz.prog qv7 0 (lc 0 Tryz.f163 151):=lp rfl qv6 .z s0 (fun c a=>((c.1,(),c.2.1,c.2.2,a.1,()),(a.2,()))) (fun y=>((),y.2.1))
abbrev nt:Mdl:=(ar (Zf Zw Zv) [] [] 2 qs1 (B:=(Int×qL1)) (fun b=>(((),b.1,()),(b.2,()))) (fun a=>qa a.1.1 a.1.2.1))
theorem ni:Zj 163 nt:=jf Tryz.func163 rfl qv6 (Zo XC) (sC jay s0)
def qau:Shp:=⟨[q9s],[qhc]⟩
abbrev qqb:Ctx (qL1):=Zn 8 [] [] XG qau (fun x=>x.2.1)
theorem qp9:Zk qqb:=Zl m0
abbrev qqa:Mdl:=(ar (Ze (.nl false Zv)) [] [] 1 qau (B:=qL1) (fun b=>(((),()),(b,()))) (fun a=>qdy a.1.1))
theorem ql6:Zj 124 qqa:=jf Tryz.func124 rfl qp9 .z s0
abbrev qqe:Ctx (qL1):=Zn 8 [] [] XG qau (fun x=>x.2.1)
theorem qqc:Zk qqe:=Zl m0
abbrev qqd:Mdl:=(ar (Ze (.nl true Zv)) [] [] 1 qau (B:=qL1) (fun b=>(((),()),(b,()))) (fun a=>mz a.1.1))
theorem ql7:Zj 124 qqd:=jf Tryz.func124 rfl qqc .z s0
abbrev bg:Mdl:=(ar (Ze Zv) [] [] 1 qau (fun(b:qL1)=>(((),()),(b,()))) (fun(a:((qL1×Unit)×(Unit)))=>gz a.1.1))
theorem bc:Zj 124 bg:=by
 refine jvp (j3t _ _) ql6 ql7 (by kernel_rfl) (fun a b h=>⟨?_,h⟩);obtain⟨⟨xs,u1⟩,u2⟩:=a;cases xs with
 |nil=>exact h
 |cons x l=>
  have e:decide ((((x::l).length:Nat):Int)=0)=false:=WD (by simp only[WA];omega);simp only[gz,mz]at h;simp only[qdy,e,W9];exact h
def jnb:Shp:=⟨[jwt],[]⟩
abbrev qq5:Mdl:=(ar (Ze Zv) [] [] 1 jnb (B:=ByteArray) (fun b=>((b,()),(()))) (fun a=>ju0 a.1.1))
theorem qq6:Zj 226 qq5:=j2o _
abbrev qzt:Mdl:=c9 Tryz.f238 63 tt false false [true,true,true,true] [(226,qq5)] [.tmp 5] (Zb (.d true oz.ty) ZP Ym ZQ) [YW, YU,jpr, .cs 196 2 1 (Zf (.e) (.e))] Xd Xi
theorem jat:Zj 238 qzt:=Zm Tryz.func238 (mC qq6 m0)
abbrev qop:Mdl:=c9 Tryz.f265 9 tt false false [] [] XL (Zf Zr ZJ) [] Y3 .z
theorem q1c:Zj 265 qop:=Zm Tryz.func265 m0
abbrev tu:Mdl:=c9 Tryz.f196 19 tt false false [] [(265,qop)] XF (Zf Zv (.fn 265 (Ze ZJ))) [] Y4 Xe
theorem qe5:Zj 196 tu:=Zm Tryz.func196 (mC q1c m0)
abbrev p5:Mdl:=c9 Tryz.f127 9 tt false false [] [(196,tu)] XF (Zf Zv (.fn 265 (Ze ZJ))) [] Y3 .z
theorem qb2:Zj 127 p5:=Zm Tryz.func127 (mC qe5 m0)
abbrev qvj:Mdl:=c9 Tryz.f239 10 tt false false [] [(127,p5)] XF (Zf Z4 Zv) [] Y3 .z
theorem q7a:Zj 239 qvj:=Zm Tryz.func239 (mC qb2 m0)
abbrev q9k:Mdl:=c9 Tryz.f266 11 tt false false [] [] XF (Zf Zr Zr) [] Y4 .z
theorem jgk:Zj 266 q9k:=Zm Tryz.func266 m0
abbrev qiy:Ctx (Int):=Zn 25 [] [au _ 25 [] qut (C:=qL1) (S:=(Int×Int)) (fun x=>(x.1.1,(x.1.2.1,x.1.2.2.1))) qus (CE:=Unit) (E:=Int) (fun c e=>((e,()),(()))) (fun c=>()) (fun{R} c a nx dn rt=>od c a.1 a.2 nx dn rt)] XG ry (fun x=>x.1.1)
theorem qix:Zk qiy:=Zl m0
theorem qxg:a8 Tryz.prog qiy 0 (lc 0 Tryz.f223 151):=lp rfl qix .z s0 (fun c a=>((c,a.1,a.2,()),(()))) (fun y=>((),y.1.1))
abbrev qy:Mdl:=(ar (Ze Zv) [] [] 1 ry (B:=Int) (fun b=>((b,()),(()))) (fun a=>uj a.1.1))
theorem v7:Zj 223 qy:=jf Tryz.func223 rfl qix (Zo XC) (sC qxg s0)
abbrev q9i:Mdl:=c9 Tryz.f240 49 tt false false [] [(124,bg),(266,q9k),(223,qy)] XI (Zf Z4 Zv) [] ⟨[Yt,Yu],[qhc]⟩ Xp
theorem jgi:Zj 240 q9i:=Zm Tryz.func240 (mC bc (mC jgk (mC v7 m0)))
abbrev qq4:Mdl:=c9 Tryz.f166 35 tt false false [] [] XF (Zf Zv Zv) [] Y3 Xl
theorem qvi:Zj 166 qq4:=Zm Tryz.func166 m0
abbrev qfn:Ctx (Bool):=Zn 26 [] [au _ 26 [] qqg (C:=(qL1×qL1×Int)) (S:=Int) (fun x=>((x.1.1,x.1.2.1,x.1.2.2.1),(pe3 x.1))) jd5 (CE:=Unit) (E:=Unit) (fun c e=>((()),(()))) (fun c=>()) (fun{R} c a nx dn rt=>ia c.1 c.2.1 c.2.2 a nx dn rt)] XF qzz (fun x=>x.1.1)
theorem qfm:Zk qfn:=Zl m0
theorem qr9:a8 Tryz.prog qfn 0 (lc 0 Tryz.f47 75):=lp rfl qfm (Zo (Zo (.two (.one (Zo (.two (.d [0,0,3,7,0,0,48,112,255] [] []) .z))) .z))) s0 (fun c a=>((c.1,c.2.1,c.2.2,a,()),(()))) (fun y=>((),()))
abbrev bh:Mdl:=(ar (Zf Zv Zv) [] [] 1 qzz (B:=Bool) (fun b=>((b,()),(()))) (fun a=>g9 a.1.1 a.1.2.1))
theorem be:Zj 47 bh:=jf Tryz.func47 rfl qfm XC (sC qr9 s0)
abbrev qvk:Mdl:=c9 Tryz.f238 63 tt false false [true,true,true,true,false,false] [(226,qq5)] [.tmp 5] (Zb (.d true oz.ty) ZP Ym ZQ) [YW, YU,jpr, Y2, YI,qvu] Xd Xi
theorem q7b:Zj 238 qvk:=Zm Tryz.func238 (mC qq6 m0)
abbrev q9j:Mdl:=j3m Tryz.f194 159 tt false true [] [(124,bg),(238,qzt),(238,qvk),(239,qvj),(240,q9i),(166,qq4),(47,bh)] XJ (Za Zw Zv Zr) [] Xa ⟨[Yq],[]⟩ (Zo (Zo (Zo (Zo (Zo (Zo (.two (Zo (Zp (Zo (.two (.one (Zo (Zo (Zp (Zo (Zo (.two (.one (Zo (.two (.two (.ad [0,0,2,6,14,0,62,126,254,511,1023] []) .z) (.two (.ad [0,0,2,6,14,0,62,126,254,511,1023,2047,2047,4095,16383] []) (Zo (Zo (.two (Zo (Zp (Zo (.two (.one (Zo (Zo (.two (Zo (Zp (Zo (Zo (.two (.one (Zo (.two (.ad [0,0,3,7,0,16,0,112,240,511] []) .z))) .z))))) .z)))) .z)))) .z))))))) .z))))))) .z)))) .z)))))))
theorem jgj:Zj 194 q9j:=zal Tryz.func194 fits mixed (mC bc (mC jat (mC q7b (mC q7a (mC jgi (mC qvi (mC be m0))))))) (ht:=ah)
abbrev qq3:Mdl:=j3m Tryz.f120 53 tt false false [] [(163,nt),(194,q9j)] XM (Zb Zw ZA Zr Zr) [] Xa ⟨[Yq],[]⟩ (Zo (.two XA (Zo (.two (.ad [0,0,2,6,0,31,63,63,255,511] []) .z))))
theorem qvh:Zj 120 qq3:=zal Tryz.func120 fits mixed (mC ni (mC jgj m0)) (ht:=ah)
abbrev qc7:Mdl:=c9 Tryz.f122 57 tt false false [] [(124,bg)] [.cell 2 98] (Ze (.rp false qof.ty)) [] ⟨[YE],[]⟩ (Zo (Zo (.two (Zo (Zp Xv)) (.two (Zo (Zp (Zo (Zo (.two (.one (Zo (.ad [0,1,0,4,12,28,0,64,252,508,1020,0,2048,0,8192,32764,65532,131071,262143,524287] [17,19]))) .z))))) .z))))
theorem qil:Zj 122 qc7:=Zm Tryz.func122 (mC bc m0)
abbrev q3n:Mdl:=c9 Tryz.f113 24 tt false false [] [(120,qq3),(122,qc7)] [.cell 6 98, .tmp 7] (Za Zw Zv Zr) [] ⟨[YE,Yq],[]⟩ .z
theorem jc9:Zj 113 q3n:=Zm Tryz.func113 (mC qvh (mC qil m0))
abbrev jlf:Ctx ((Int×qL1)):=Zn 10 [(26,q1x)] [] XH q91 (fun x=>(x.1.2.1,x.2.1))
theorem jle:Zk jlf:=Zl (mC q46 m0)
abbrev qdg:Mdl:=(ar (Ze Zw) [] [] 2 q91 (B:=(Int×qL1)) (fun b=>(((),b.1,()),(b.2,()))) (fun a=>qcg a.1.1))
theorem qdh:Zj 101 qdg:=jf Tryz.func101 rfl jle .z s0
abbrev q0u:Mdl:=c9 Tryz.f114 51 tt false false [] [(101,qdg)] XF (Zf ZS (.d true o7.ty)) [] ⟨[Ys],[YH,jub]⟩ (Zo (Zo (.two (.ad [0,0,0,0,8,24,56,127,255,511] []) (.two (Zo (Zp (Zo (Zo (.two (.one (Zo (.ad [0,1,3,7,0,16,0,64,192,448,0,1024,4032,8128,0,16384,65472,131071,262143] [16,18]))) .z))))) .z))))
theorem jbo:Zj 114 q0u:=Zm Tryz.func114 (mC qdh m0)
abbrev qxh:Mdl:=j3m Tryz.f48 34 tt false false [] [(112,q0v),(113,q3n),(114,q0u)] XJ (Za ZS ZB Zr) [] ⟨[Ys,Yq],[YH,jub]⟩ ⟨[Yq],[]⟩ .z
theorem q8t:Zj 48 qxh:=zal Tryz.func48 fits mixed (mC jbp (mC jc9 (mC jbo m0))) (ht:=ah)
abbrev qd8:Mdl:=c9 Tryz.f191 5 tt false false [] [(62,bp)] XG (Ze Zv) [] Y3 .z
theorem qoa:Zj 191 qd8:=Zm Tryz.func191 (mC br m0)
abbrev s6:Mdl:=c9 Tryz.f145 19 tt false false [] [(191,qd8)] XF (Zf ZA (.fn 191 .nil)) [] Y4 Xe
theorem qeo:Zj 145 s6:=Zm Tryz.func145 (mC qoa m0)
abbrev pn:Mdl:=c9 Tryz.f60 9 tt false false [] [(145,s6)] XF (Zf ZA (.fn 191 .nil)) [] Y3 .z
theorem qbr:Zj 60 pn:=Zm Tryz.func60 (mC qeo m0)
abbrev qhr:Mdl:=c9 Tryz.f115 10 tt false false [] [(60,pn)] XG (Ze ZT) [] Y3 .z
theorem qsb:Zj 115 qhr:=Zm Tryz.func115 (mC qbr m0)
abbrev qiz:Mdl:=c9 Tryz.f192 7 tt false false [] [(47,bh)] XL (Zf Zv ZJ) [] Y3 .z
theorem quu:Zj 192 qiz:=Zm Tryz.func192 (mC be m0)
abbrev s7:Mdl:=c9 Tryz.f145 19 tt false false [] [(192,qiz)] XF (Zf ZA (.fn 192 (Ze ZJ))) [] Y4 Xe
theorem qep:Zj 145 s7:=Zm Tryz.func145 (mC quu m0)
abbrev qd9:Mdl:=c9 Tryz.f118 12 tt false false [] [(145,s7)] XF (Zf ZT Zv) [] Y4 .z
theorem qi0:Zj 118 qd9:=Zm Tryz.func118 (mC qep m0)
abbrev m3:Mdl:=c9 Tryz.f117 105 tt false false [] [] XF (Zf ZT Zr) [] Y6 (Zo (Zo (.two XA (Zo (Zo (.two (Zo (Zp (Zo (Zo (.two (.one (Zo (.ad [0,0,2,0,0,16,56,120,0,256,768,2040,4095,8191] [11,13]))) .z))))) (Zo (Zo (.two (Zo (Zp (Zo (.two (.one XA) .z)))) .z)))))))))
theorem qk:Zj 117 m3:=Zm Tryz.func117 m0
abbrev qcs:Mdl:=c9 Tryz.f237 17 tt false false [true,true,true] [] XF (Za Zr ZP ZQ) [YT, YR,jub] ⟨[Yo],[YT, YQ,jub]⟩ (Zo (.two (.ad [0,1,3,7,15,0,63,127,0,511,1023,2047,4095] []) .z))
theorem qma:Zj 237 qcs:=Zm Tryz.func237 m0
abbrev rz:Mdl:=c9 Tryz.f196 19 tt false false [true,true,true] [(237,qcs)] XF (Zf Zv (.fn 237 (Zf ZP ZQ))) [YT, YR,jub] ⟨[Yp],[YT, YQ,jub]⟩ Xe
theorem qd7:Zj 196 rz:=Zm Tryz.func196 (mC qma m0)
abbrev oq:Mdl:=c9 Tryz.f127 9 tt false false [true,true,true] [(196,rz)] XF (Zf Zv (.fn 237 (Zf ZP ZQ))) [YT, YR,jub] ⟨[Yo],[YT, YQ,jub]⟩ .z
theorem qav:Zj 127 oq:=Zm Tryz.func127 (mC qd7 m0)
abbrev qfo:Mdl:=c9 Tryz.f193 19 tt false false [true,true] [(127,oq)] XK (Za ZP Zr Zr) [YS,jub] ⟨[Yo],[YH,jub]⟩ .z
theorem qqh:Zj 193 qfo:=Zm Tryz.func193 (mC qav m0)
abbrev qi1:Mdl:=c9 Tryz.f119 21 tt false false [true,true] [(193,qfo)] XF (Zf ZP Zr) [YS,jub] ⟨[Yp],[YH,jub]⟩ Xe
theorem quv:Zj 119 qi1:=Zm Tryz.func119 (mC qqh m0)
abbrev qld:Mdl:=c9 Tryz.f49 69 tt false false [true,true] [(115,qhr),(47,bh),(118,qd9),(117,m3),(116,v6),(119,qi1)] XH (Ze ZP) [YS,jub] ⟨[Yp,Yq],[YH,jub]⟩ (Zo (Zo (.two XA Xe)))
theorem qxj:Zj 49 qld:=Zm Tryz.func49 (mC qsb (mC be (mC qi0 (mC qk (mC qcq (mC quv m0))))))
abbrev qcr:Mdl:=c9 Tryz.f195 28 tt false false [true] [] [] (Ze ZO) [qhc] ⟨[],[qhc]⟩ (Zo (Zp (Zo (.two (.one (.ad [0,0,0,0,0,0,48,112,0,0,768,1792,4083,8179,16383,32767] [13,15])) .z))))
theorem ql9:Zj 195 qcr:=Zm Tryz.func195 m0
abbrev qsp:Mdl:=c9 Tryz.f121 35 tt false false [] [(195,qcr)] XK (Za (.rp false qof.ty) Zr Zr) [] Xb XE
theorem q3o:Zj 121 qsp:=Zm Tryz.func121 (mC ql9 m0)
abbrev qvg:Mdl:=c9 Tryz.f50 77 tt false false [] [(120,qq3),(121,qsp),(122,qc7)] [.tmp 6, .cell 7 57, .tmp 8] (Za Zw Zv Zr) [] Xc (Zo (Zo (Zo (.two (Zo (Zp (Zo (Zo (.two (.one (Zo (Zo (.two (.ad [0,1,3,7,0,16,63,127,255,511] []) (Zo (.two (Zp (.two (.two (.ad [0,1,0,7,15,0,0,96,224,511] []) .z) .z)) (.two (.ad [0,0,0,4,14,0,0,64,0,510,1023,1022,4095,8191] [12]) .z))))))) .z))))) .z))))
theorem q69:Zj 50 qvg:=Zm Tryz.func50 (mC qvh (mC q3o (mC qil m0)))
abbrev qqj:Mdl:=c9 Tryz.f123 49 tt false false [] [] XK (Za ZT Zr Zv) [] Xb (Zo (Zo (.two (Zo (Zp (Zo (.one (Zo (Zp (Zo (Zo (.two (.one (Zo (.two (.ad [0,0,2,7,15,0,0,96,224,480,1023] []) .z))) .z))))))))) .z)))
theorem q2i:Zj 123 qqj:=Zm Tryz.func123 m0
abbrev qqi:Mdl:=c9 Tryz.f51 10 tt false false [] [(117,m3),(123,qqj)] XF (Zf ZT Zr) [] Xb .z
theorem q2h:Zj 51 qqi:=Zm Tryz.func51 (mC qk (mC q2i m0))
abbrev qlb:Mdl:=c9 Tryz.f53 60 tt false false [] [] XF (Zf ZT Zr) [] Y6 (Zo (Zo (Zo (Zo (.two (Zo (Zp (Zo (.two (.one (.two (.ad [0,1,3,7,0,0,48,112,255,511,1023,0] []) (Zp .z))) .z)))) .z)))))
theorem qxi:Zj 53 qlb:=Zm Tryz.func53 m0
abbrev qle:Mdl:=c9 Tryz.f52 28 tt false false [] [(124,bg)] XF (Zf ZT Zv) [] ⟨[Yr],[qvu]⟩ XE
theorem qxk:Zj 52 qle:=Zm Tryz.func52 (mC bc m0)
abbrev qgi:Mdl:=c9 Tryz.f54 23 tt false true [] [(124,bg)] XG (Ze ZT) [] ⟨[Yr],[qvu]⟩ XE
theorem qlc:Zj 54 qgi:=Zm Tryz.func54 (mC bc m0)
abbrev qhs:Mdl:=c9 Tryz.f126 14 tt false false [] [] XL (Zf ZV ZQ) [] Y3 .z
theorem qsc:Zj 126 qhs:=Zm Tryz.func126 m0
abbrev kg:Mdl:=c9 Tryz.f125 19 tt false false [] [(126,qhs)] XF (Zf (.d false (.slice ak.ty)) (.fn 126 (Ze ZQ))) [] Y4 Xe
theorem u3:Zj 125 kg:=Zm Tryz.func125 (mC qsc m0)
abbrev qlf:Mdl:=c9 Tryz.f55 50 tt false false [] [(54,qgi),(118,qd9),(117,m3),(125,kg)] [.cell 2 57] (Ze ZT) [] ⟨[(0, .d true qy1.ty)],[]⟩ (Zo (.two (.ad [0,1,0,0,0,16,48,112,251,511,1023,2047,0,8191] [13]) (.two (Zo (.one (.nm ⟨[(0, .rp false j5.ty),(2, .ptr 0),(3, .ptr 1),(4, .ptr 2)],[.cs 57 8 1 (Zg Zu Zu ZE ZE Zy Zz Zy Zy), .cs 57 8 1 (Zg Zu Zu ZE ZE Zy Z0 Zy Zy), .cs 3 1 1 (Ze Zu),jmf]⟩ (.u 100000 (.two (.two (.ad [0,0,2,6,14,30,62,127] []) .z) (.two (.one (Zo (.ad [0,1,0,4,12,28,60,0,252,508,1020,2047,4095,8191] [11,13]))) .z)))))) .z)))
theorem qxl:Zj 55 qlf:=Zm Tryz.func55 (mC qlc (mC qi0 (mC qk (mC u3 m0))))
abbrev q51:Mdl:=c9 Tryz.f14 87 tt false false [] [(48,qxh),(49,qld),(7,rb),(50,qvg),(51,qqi),(53,qlb),(52,qle),(54,qgi),(55,qlf)] [.tmp 4, .cell 5 57, .tmp 6] (Zf ZS Zr) [] Xc (Zo (Zo (Zo (Zo (Zo (.two (Zo (.one (Zo (.two (Zo (Zo (Zo (.ad [0,1,0,4,3,19,63,127] [5,7])))) .z)))) (.two (.ad [0,0,3,7] [2]) .z)))))))
theorem jft:Zj 14 q51:=Zm Tryz.func14 (mC q8t (mC qxj (mC rf (mC q69 (mC q2h (mC qxi (mC qxk (mC qlc (mC qxl m0)))))))))
abbrev qmk:Mdl:=c9 Tryz.f56 60 tt false false [] [(27,cn),(63,uv),(124,bg)] [.cell 2 24, .tmp 3] (Ze Zw) [] ⟨[(0, .d true bk.ty),Yq],[]⟩ (Zo (Zo (Zo (Zo (.two (Zo (Zp (Zo (Zo (.two (.one (Zo (.ad [0,1,0,4,0,16,48,0,128,496,1020,2044,4095,8191,16383] [12,14]))) .z))))) .z)))))
theorem qy6:Zj 56 qmk:=Zm Tryz.func56 (mC ca (mC wj (mC bc m0)))
abbrev qg5:Mdl:=c9 Tryz.f128 8 tt false false [] [(62,bp)] XL (Zf Zr Z5) [] Y3 .z
theorem qrg:Zj 128 qg5:=Zm Tryz.func128 (mC br m0)
abbrev ss:Mdl:=c9 Tryz.f196 19 tt false false [] [(128,qg5)] XF (Zf Zv (.fn 128 (Ze Z5))) [] Y4 Xe
theorem qei:Zj 196 ss:=Zm Tryz.func196 (mC qrg m0)
abbrev pi:Mdl:=c9 Tryz.f127 9 tt false false [] [(196,ss)] XF (Zf Zv (.fn 128 (Ze Z5))) [] Y3 .z
theorem qbo:Zj 127 pi:=Zm Tryz.func127 (mC qei m0)
abbrev qbb:Mdl:=c9 Tryz.f57 38 tt false false [] [(127,pi),(47,bh)] XG (Ze Zw) [] Y3 (Zo (.two Xj .z))
theorem qg6:Zj 57 qbb:=Zm Tryz.func57 (mC qbo (mC be m0))
abbrev t7:Mdl:=c9 Tryz.f197 33 tt false false [] [] XG (Ze Zw) [] ⟨[Ys],[Y1,qhc]⟩ (Zo (.two (.ad [0,1,0,4,0,16,48,124,252,511,1023,2047] []) (.two XA .z)))
theorem qae:Zj 197 t7:=Zm Tryz.func197 m0
abbrev qhm:Mdl:=c9 Tryz.f241 27 tt false false [] [] XF (Zf (.e) Zr) [] Y6 .z
theorem qsa:Zj 241 qhm:=Zm Tryz.func241 m0
abbrev qdz:Mdl:=c9 Tryz.f198 36 tt false false [] [(241,qhm)] XG (Ze ZA) [] Y6 (Zo (Zo (.two XA Xe)))
theorem qn9:Zj 198 qdz:=Zm Tryz.func198 (mC qsa m0)
abbrev km:Mdl:=c9 Tryz.f200 41 tt false false [true,true] [] XF (Zf ZP Zr) [.cs 272 2 1 (Zf Zr ZG),qhc] ⟨[Yp],[Y1,qhc]⟩ (Zo (.two (Zp (Zo (.one (.two (.ad [0,1,3,7,0,0,32,96,224,0,512,1536,3584,0,15872,32256,65504,131040,262143,524287] [19]) .z)))) .z))
theorem nq:Zj 200 km:=Zm Tryz.func200 m0
abbrev ow:Mdl:=c9 Tryz.f199 30 tt false false [true,true] [(200,km)] [] (Za ZP Zr Zr) [.cs 272 2 1 (Zf Zr ZG),qhc] ⟨[],[Y1,qhc]⟩ (.two (.ad [0,0,3,0,0,16,48,112,0,496,1023,2047,4095] [2,10,11,12]) .z)
theorem wg:Zj 199 ow:=Zm Tryz.func199 (mC nq m0)
abbrev qe8:Mdl:=c9 Tryz.f129 55 tt false false [] [(197,t7),(198,qdz),(199,ow),(200,km)] XG (Ze Zw) [] Y3 (Zo (Zo (Zo (.two Xj (.two XA .z)))))
theorem qou:Zj 129 qe8:=Zm Tryz.func129 (mC qae (mC qn9 (mC wg (mC nq m0))))
abbrev qvr:Mdl:=c9 Tryz.f201 12 tt false false [] [] XG (Ze Zw) [] Y3 .z
theorem qzu:Zj 201 qvr:=Zm Tryz.func201 m0
abbrev qrc:Mdl:=c9 Tryz.f202 27 tt false false [] [(62,bp)] XF (Zf Z4 Zr) [] Y4 (Zo (.two (.ad [0,1,0,7,0,16,0,127,255,511] []) .z))
theorem qvq:Zj 202 qrc:=Zm Tryz.func202 (mC br m0)
abbrev q7e:Mdl:=c9 Tryz.f278 24 tt false false [] [] XG (Ze Zv) [] Y4 (Zo (Zo (.two (Zo (Zp (Zo (Zo (.two (.one (Zo (Zo (Zp (Zo (.one (.ad [0,0,0,6,3,31] []))))))) .z))))) .z)))
theorem q9p:Zj 278 q7e:=Zm Tryz.func278 m0
abbrev q1g:Mdl:=c9 Tryz.f279 21 tt false false [] [] XG (Ze Zv) [] ⟨[(0, .d true (.int .u64))],[]⟩ XE
theorem q3w:Zj 279 q1g:=Zm Tryz.func279 m0
abbrev qvs:Mdl:=c9 Tryz.f267 116 tt false false [true,false,false] [(124,bg),(278,q7e),(279,q1g)] [] (Za ZP ZE ZE) [YM,qvu,qvu] ⟨[],[YM,qvu,qvu]⟩ (.two (Zo (Zo (.two (.two XA XA) .z))) (Zo (.two (Zo (.one (.nm ⟨[Ys,Yy,YC,Yw,(53, .own 1),YA,(55, .d true qT0)],[.cs 305 2 1 (Zf ZL ZG),qvu,qvu]⟩ Xt))) (Zo (.two (Zo (.one (.nm ⟨[Ys,Yy,YC,Yw,(12, .ptr 1),(69, .d true qT2),(70, .d true qT0),(71, .d true qT0)],[.cs 305 2 1 (Zf Zy Zy), YO,qvu,qvu]⟩ Xm))) Xr)))))
theorem q7f:Zj 267 qvs:=Zm Tryz.func267 (mC bc (mC q9p (mC q3w m0)))
abbrev jib:Mdl:=c9 Tryz.f268 37 tt false false [] [] [.tmp 8] (Zb Zr Zv Zr Zv) [] Y6 (Zo (Zo (.two (Zo (Zp (Zo (Zo (.two (.one (Zo (.ad [0,0,0,0,0,24,56,124,0,0,0,1536,3584,7936,16380,32767,65535] [16]))) .z))))) .z)))
theorem jni:Zj 268 jib:=Zm Tryz.func268 m0
abbrev qss:Mdl:=c9 Tryz.f267 116 tt false false [true,false,false,false,false] [(124,bg),(278,q7e),(279,q1g)] [] (Za ZP ZG ZL) [.cs 305 2 1 (Zf Z0 Z8),qhc,qhc,qvu,qvu] ⟨[],[YM,qvu,qvu, YL, YL]⟩ (.two (Zo (Zo (.two (.two (Zo (.one (.nm ⟨[Ys,(1, .own 1),(2, .own 2),(6, .d true qT0),(23, .d true qT0),(24, .d true qT0)],[.cs 305 2 1 (Zf Z0 Z8),qhc,qhc,qvu,qvu]⟩ Xt))) (Zo (.one (.nm ⟨[Ys,Yy,(2, .own 1),(6, .d true qT0),(36, .d true qT0),(37, .d true qT0)],[YO,qhc,qvu,qvu, YL]⟩ Xt)))) .z))) (Zo (.two (Zo (.one (.nm ⟨[Ys,Yy,YC,Yw,(53, .own 1),YA,(55, .d true qT0)],[.cs 305 2 1 (Zf ZL ZG),qvu,qvu, YL, YL]⟩ Xt))) (Zo (.two (Zo (.one (.nm ⟨[Ys,Yy,YC,Yw,(12, .ptr 1),(69, .d true qT2),(70, .d true qT0),(71, .d true qT0)],[.cs 305 2 1 (Zf Zy Zy), YO,qvu,qvu, YL]⟩ Xm))) Xr)))))
theorem q3y:Zj 267 qss:=Zm Tryz.func267 (mC bc (mC q9p (mC q3w m0)))
abbrev qg3:Mdl:=c9 Tryz.f242 142 tt false false [true,false,false] [(267,qvs),(267,qss),(268,jib)] XF (Zf ZP Zr) [YM,qvu,qvu] ⟨[Yo],[YM,qvu,qvu]⟩ (Zo (Zo (.two (Zo (.one (.nm ⟨[Ys,Yq,Yv,(17, .d true qT0),(18, .d true qT0)],[YO, Y0,qvu,qvu,qvu,qvu]⟩ (.u 100000 (Zo (Zo (.two (.one (Zo (Zo (.two (.ad [0,0,2,6,14,0,62,126,0,256,768,1792,0,7936,16128,32767] [15]) .z)))) .z))))))) (.two (Zo (.one (.nm ⟨[Ys,Yq,Yv,(53, .d true qT0),YA],[YO, Y0,qvu,qvu,qvu,qvu]⟩ (.u 100000 (Zo (Zo (.two (.one (Zo (Zo (.one (.nm ⟨[Ys,Yq,Yv,(7, .d true qT0),(53, .d true qT0),YA,(61, .d true qT0),(62, .d true qT0)],[YO, Y0,qvu,qvu,qvu,qvu]⟩ (.u 100000 (Zo (Zo (.two (.one (Zo (.two (.ad [0,1,3,7,0,31,63,0,255,511,0,1024,3072,7168,0,31744,64512,0,261120,523264,1023,2097151] []) (Zo (.two (.ad [0,0,2,0,8,24,56,0,248,504,0,0,2048,6144,14336,0,63488,129024,262142,0,524288,0,2097152,6291456,14680064,0,65011712,132120576,0,0,536870912,1610612736,3758096384,0,16642998272,33822867456,68719476734,137438953471] [37]) .z))))) .z))))))))) .z))))))) .z))))
theorem qrd:Zj 242 qg3:=Zm Tryz.func242 (mC q7f (mC q3y (mC jni m0)))
def qhq:Shp:=⟨[],[qvu]⟩
abbrev vb:Mdl:=(ar (Zf ZO (.fn 144 .nil)) [qvu] [true] 0 qhq (B:=qL2) (fun b=>((()),(b,()))) (fun a=>qjn a.2.1))
theorem qgh:Zj 142 vb:=jt1 144 (by decide)
abbrev qsq:Mdl:=c9 Tryz.f243 5 tt false false [] [] XG (Ze Zr) [] Y3 .z
theorem q3x:Zj 243 qsq:=Zm Tryz.func243 m0
abbrev tk:Mdl:=c9 Tryz.f196 19 tt false false [] [(243,qsq)] XF (Zf Zv (.fn 243 .nil)) [] Y4 Xe
theorem qez:Zj 196 tk:=Zm Tryz.func196 (mC q3x m0)
abbrev pw:Mdl:=c9 Tryz.f127 9 tt false false [] [(196,tk)] XF (Zf Zv (.fn 243 .nil)) [] Y3 .z
theorem qby:Zj 127 pw:=Zm Tryz.func127 (mC qez m0)
abbrev qnk:Mdl:=c9 Tryz.f203 83 tt false false [] [(124,bg),(242,qg3),(142,vb),(127,pw)] XH (Ze ZA) [] Y8 (Zo (Zo (.two (Zo (.one (.nm ⟨[(0, .d false qT2),YB,(14, .d false qT2),(15, .d true qT0),(16, .d true qT0)],[YM,qvu,qvu]⟩ (.u 100000 (Zo (Zo (.two (.one (Zo (Zo (Zo (.ad [0,0,0,4,12,28,0,64,192,508,0,1024,3072,7168,0,16384,65532,131069,262141,524285,1048575,2097151,4194303] [9,16,19,22]))))) .z))))))) (.two (Zo (.two (Zo (.one (.nm ⟨[YB,(55, .d true qT0),(56, .d true qT0)],[YM,qvu,qvu]⟩ Xt))) .z)) (Zo (Zo (Zo (.two (Zo (.one (.nm ⟨[(9, .d true qT2),(73, .d true qT2),(74, .d true qT0),(75, .d true qT0)],[]⟩ Xt))) .z))))))))
theorem qsr:Zj 203 qnk:=Zm Tryz.func203 (mC bc (mC qrd (mC qgh (mC qby m0))))
abbrev q3v:Mdl:=c9 Tryz.f130 43 tt false false [] [(27,cn),(201,qvr),(202,qrc),(203,qnk)] XH (Ze Zw) [] Y8 (Zo (Zo Xz))
theorem jdj:Zj 130 q3v:=Zm Tryz.func130 (mC ca (mC qzu (mC qvq (mC qsr m0))))
abbrev qmi:Mdl:=c9 Tryz.f131 43 tt false false [] [(27,cn),(201,qvr),(202,qrc),(203,qnk)] XH (Ze Zw) [] Y8 (Zo (Zo Xz))
theorem qy5:Zj 131 qmi:=Zm Tryz.func131 (mC ca (mC qzu (mC qvq (mC qsr m0))))
abbrev qpc:Mdl:=c9 Tryz.f132 80 tt false false [] [(27,cn),(62,bp)] XH (Ze Zw) [] ⟨[Yt,Yq],[YP]⟩ (Zo (Zo (Zo Xu)))
theorem q1t:Zj 132 qpc:=Zm Tryz.func132 (mC ca (mC br m0))
abbrev qmq:Mdl:=c9 Tryz.f269 9 tt false false [] [] XG (Ze Zr) [] Y3 .z
theorem qzd:Zj 269 qmq:=Zm Tryz.func269 m0
abbrev tv:Mdl:=c9 Tryz.f196 19 tt false false [] [(269,qmq)] XF (Zf Zv (.fn 269 .nil)) [] Y4 Xe
theorem qe6:Zj 196 tv:=Zm Tryz.func196 (mC qzd m0)
abbrev p6:Mdl:=c9 Tryz.f127 9 tt false false [] [(196,tv)] XF (Zf Zv (.fn 269 .nil)) [] Y3 .z
theorem qb3:Zj 127 p6:=Zm Tryz.func127 (mC qe6 m0)
abbrev qsy:Mdl:=c9 Tryz.f245 6 tt false false [] [(127,p6)] XG (Ze Zv) [] Y3 .z
theorem q4k:Zj 245 qsy:=Zm Tryz.func245 (mC qb3 m0)
abbrev qsx:Mdl:=c9 Tryz.f244 16 tt false false [] [(245,qsy)] XL (Zf Zv ZR) [] Y3 .z
theorem q4j:Zj 244 qsx:=Zm Tryz.func244 (mC q4k m0)
abbrev tl:Mdl:=c9 Tryz.f145 19 tt false false [] [(244,qsx)] XF (Zf ZA (.fn 244 (Ze ZR))) [] Y4 Xe
theorem qe0:Zj 145 tl:=Zm Tryz.func145 (mC q4j m0)
abbrev px:Mdl:=c9 Tryz.f60 9 tt false false [] [(145,tl)] XF (Zf ZA (.fn 244 (Ze ZR))) [] Y3 .z
theorem qbz:Zj 60 px:=Zm Tryz.func60 (mC qe0 m0)
abbrev qzv:Mdl:=c9 Tryz.f204 29 tt false false [] [(60,px)] XG (Ze ZA) [] Y3 .z
theorem jaw:Zj 204 qzv:=Zm Tryz.func204 (mC qbz m0)
abbrev q9t:Mdl:=c9 Tryz.f246 7 tt false false [] [] XG (Ze Zr) [] Y4 .z
theorem jgo:Zj 246 q9t:=Zm Tryz.func246 m0
abbrev qzw:Mdl:=c9 Tryz.f205 33 tt false false [] [(246,q9t)] XG (Ze ZA) [] Y3 Xz
theorem jax:Zj 205 qzw:=Zm Tryz.func205 (mC jgo m0)
abbrev qdd:Mdl:=c9 Tryz.f247 72 tt true false [true,true,true] [] [] (Za ZP Zr Zr) [.cs 277 4 1 (Zb ZG ZL Zr Zr), YP,qhc] ⟨[],[.cs 277 4 1 (Zb ZG ZL Zu Zu), YP,qhc]⟩ (Zo (Zo (.two (Zo (Zp (Zo (Zo (.two (.one (Zo (Zo (Zo (Zo (Zp (Zo (Zo (.two (.one (Zo (.ad [0,0,0,0,0,24,56,124,0,0,0,1536,3584,7936,16380,0,32768,98304,229376,524284,1048575,2097151] [21]))) .z))))))))) .z))))) .z)))
theorem qno:Zj 247 qdd:=Zm Tryz.func247 m0
abbrev qv3:Mdl:=c9 Tryz.f206 102 tt true false [] [(124,bg),(247,qdd)] [.cell 4 277] (Zf ZA Zr) [] ⟨[(0, .d true qgn.ty)],[]⟩ (Zo (Zo (.two (Zo (.one (.nm ⟨[Yq,YB,Yv,(12, .d false qT2),(13, .d true qT0),(14, .d true qT0)],[YX, YZ, YP,qhc]⟩ (.u 100000 Xv)))) (.two (Zo (.one (.nm ⟨[Yq,YB,Yv,(8, .d true qT0)],[YX, YZ, YP,qhc]⟩ (.u 100000 (Zo (.two (.one (Zo (Zo (.two (.one (.nm ⟨[Yq,YB,Yv,(8, .d true qT0),(9, .d true qT0),(10, .d true qT0)],[YX, YZ, YP,qhc]⟩ Xt)) (Zo (.two (Zo (.two (.two (.ad [0,1,0,0,8,0,0,64,0,448,960,0,2048,0,14336,30720,65503,131039,262143,524287] [17,19]) .z) .z)) .z)))))) .z)))))) .z))))
theorem q7o:Zj 206 qv3:=Zm Tryz.func206 (mC bc (mC qno m0))
abbrev q4i:Mdl:=c9 Tryz.f133 20 tt false false [] [(204,qzv),(205,qzw),(206,qv3)] XH (Ze ZA) [] ⟨[Yp,Yq],[]⟩ .z
theorem jdz:Zj 133 q4i:=Zm Tryz.func133 (mC jaw (mC jax (mC q7o m0)))
abbrev qe9:Mdl:=c9 Tryz.f207 15 tt false false [] [] XL (Zf Zv ZQ) [] Y3 .z
theorem qov:Zj 207 qe9:=Zm Tryz.func207 m0
abbrev s8:Mdl:=c9 Tryz.f145 19 tt false false [] [(207,qe9)] XF (Zf ZA (.fn 207 (Ze ZQ))) [] Y4 Xe
theorem qeq:Zj 145 s8:=Zm Tryz.func145 (mC qov m0)
abbrev po:Mdl:=c9 Tryz.f60 9 tt false false [] [(145,s8)] XF (Zf ZA (.fn 207 (Ze ZQ))) [] Y3 .z
theorem qbs:Zj 60 po:=Zm Tryz.func60 (mC qeq m0)
abbrev zc:Mdl:=c9 Tryz.f135 15 tt false false [] [(60,po)] XF (Zf ZA Zr) [] Y3 Xe
theorem qfa:Zj 135 zc:=Zm Tryz.func135 (mC qbs m0)
abbrev qab:Mdl:=c9 Tryz.f134 7 tt false false [] [(135,zc)] XG (Zf ZR ZK) [] Y3 .z
theorem qj8:Zj 134 qab:=Zm Tryz.func134 (mC qfa m0)
abbrev uq:Mdl:=c9 Tryz.f140 6 tt false false [] [(134,qab)] XG (Ze (.fn 134 (Zf ZR ZK))) [] Y3 .z
theorem qfu:Zj 140 uq:=Zm Tryz.func140 (mC qj8 m0)
abbrev qac:Mdl:=c9 Tryz.f136 8 tt false false [] [(135,zc)] XG (Zf ZR ZK) [] Y3 .z
theorem qj9:Zj 136 qac:=Zm Tryz.func136 (mC qfa m0)
abbrev ur:Mdl:=c9 Tryz.f140 6 tt false false [] [(136,qac)] XG (Ze (.fn 136 (Zf ZR ZK))) [] Y3 .z
theorem qfv:Zj 140 ur:=Zm Tryz.func140 (mC qj9 m0)
abbrev qg4:Mdl:=c9 Tryz.f138 99 tt false false [] [(197,t7),(199,ow),(200,km)] XG (Ze Zw) [] ⟨[Yr],[.arr 280 .own [3,3] j08.ty]⟩ (Zo (Zo (.two Xj (Zo (Zo (.two (Zo (Zp (Zo (Zo (.two (.one (Zo (Zo (Zo (Zo (Zo (.two (.ad [0,0,0,0,12,28,60,0,128,508,3,2047,4095] [9,12]) (.ad [0,0,0,0,12,28,60,0,0,256,896,1920,4092,3,16383,32767] [12,15])))))))) .z))))) .z))))))
theorem qrf:Zj 138 qg4:=Zm Tryz.func138 (mC qae (mC wg (mC nq m0)))
abbrev qad:Mdl:=c9 Tryz.f137 9 tt false false [] [(138,qg4)] XG (Zf ZQ ZK) [] Y3 (Zo (.two (.ad [0,0,2,6,14,31,63] []) .z))
theorem qka:Zj 137 qad:=Zm Tryz.func137 (mC qrf m0)
abbrev us:Mdl:=c9 Tryz.f140 6 tt false false [] [(137,qad)] XG (Ze (.fn 137 (Zf ZQ ZK))) [] Y3 .z
theorem qfw:Zj 140 us:=Zm Tryz.func140 (mC qka m0)
abbrev em:Mdl:=c9 Tryz.f208 19 tt false false [true,true,true,true,true] [(140,uq),(140,ur),(140,us)] XF (Zf ZO (.fn 140 .nil)) [YV, YN, .cs 24 4 1 (Zb Zr Zx Zr Zr), YN, .cs 3 1 1 (Ze Zr)] ⟨[Yp],[YV, YN,qgm, YN, .cs 3 1 1 (Ze Zu)]⟩ (Zo (.two (Zo (.one (.u 4 .z))) .z))
theorem k8:Zj 208 em:=Zm Tryz.func208 (mC qfu (mC qfv (mC qfw m0)))
abbrev dz:Mdl:=c9 Tryz.f139 9 tt false false [true,true,true,true,true] [(208,em)] XF (Zf ZO (.fn 140 .nil)) [YV, YN, .cs 24 4 1 (Zb Zr Zx Zr Zr), YN, .cs 3 1 1 (Ze Zr)] ⟨[Yo],[YV, YN,qgm, YN, .cs 3 1 1 (Ze Zu)]⟩ .z
theorem j9:Zj 139 dz:=Zm Tryz.func139 (mC k8 m0)
abbrev qc9:Mdl:=c9 Tryz.f58 61 tt false false [] [(27,cn),(57,qbb),(129,qe8),(130,q3v),(131,qmi),(132,qpc),(133,q4i),(139,dz)] XH (Ze ZS) [] Y7 .z
theorem qnl:Zj 58 qc9:=Zm Tryz.func58 (mC ca (mC qg6 (mC qou (mC jdj (mC qy5 (mC q1t (mC jdz (mC j9 m0))))))))
instance bytesDec : DecidableEq ByteArray := fun a b => if h : a.data.toList = b.data.toList then .isTrue (by obtain ⟨⟨x⟩⟩ := a; obtain ⟨⟨y⟩⟩ := b; cases h; rfl) else .isFalse fun e => h (by rw [e])
instance lD : DecidableEq (List af) := inferInstance
instance uD : DecidableEq (Int × Int × Unit) := inferInstance
instance nD : DecidableEq bk := instDecidableEqProd
def j22:bk:=(3,[(⟨#[97]⟩,[0],[1],()),(⟨#[98]⟩,[1],[2],())],0,2,())
def j23:bk:=(3,[(⟨#[97]⟩,[0],[1],()),(⟨#[98]⟩,[1],[2],()),(⟨#[]⟩,[2],[0],())],0,2,())
theorem qre:qc9.m ((j23,()),())=some (((true,(0:Int),()):Bool×Int×Unit),()):=by kernel_rfl
def mr(x:bk):Bool:=decide (x=j23)
theorem qot{x:bk}(h:mr x=true):x=j23:=W8 h
abbrev qcc:Mdl:=ar (Ze ZS) [] [] 2 Y7 (B:=Shp.den Y7) (fun b=>b) (fun a=>bif mr a.1.1 then some (((true,(0:Int),()):Bool×Int×Unit),())else none)
theorem qlu:Zj 58 qcc:=q4m qnl fun a b h=>by
 obtain⟨⟨x,⟨⟩⟩,⟨⟩⟩:=a;have h:(bif mr x then some (((true,(0:Int),()):Bool×Int×Unit),())else none)=some b:=h;cases e:mr x with
 |true=>
  rw[e]at h;have e:x=j23:=qot e;subst e;exact qre.trans h
 |false=>
  rw[e]at h;cases h
abbrev q0t:Mdl:=c9 Tryz.f209 18 tt false false [] [] XG (Ze Zv) [] ⟨[(0, .d true (.int .u32))],[]⟩ XE
theorem jbn:Zj 209 q0t:=Zm Tryz.func209 m0
abbrev qtt:Mdl:=c9 Tryz.f141 106 tt false false [] [(209,q0t)] XG (Ze Zw) [] ⟨[Yr],[.arr 216 (.fz true) [0] (.int .u32)]⟩ (Zo (Zo (.two (Zo (Zp (Zo (Zo (.two (.one (Zo (.ad [0,0,2,6,14,31,0,0,128,447,959,2047,4095,8191] [5,11,12,13]))) .z))))) (Zo (Zo (.two (Zo (Zp (Zo (.two (.one (.two XA XE)) .z)))) .z))))))
theorem q50:Zj 141 qtt:=Zm Tryz.func141 (mC jbn m0)
abbrev va:Mdl:=(ar (Zf ZO (.fn 143 .nil)) [qvu] [true] 0 qhq (B:=qL2) (fun b=>((()),(b,()))) (fun a=>qjm a.2.1))
theorem qgg:Zj 142 va:=jt1 143 (by decide)
abbrev qts:Mdl:=c9 Tryz.f59 47 tt false true [] [(27,cn),(141,qtt),(142,va)] XH (Ze Zw) [] ⟨[Yr,Yq],[qvu]⟩ (Zo Xz)
theorem q5z:Zj 59 qts:=Zm Tryz.func59 (mC ca (mC q50 (mC qgg m0)))
abbrev qin:Mdl:=c9 Tryz.f61 9 tt false false [] [(62,bp)] XL (Zf Zv ZK) [] Y3 .z
theorem qt8:Zj 61 qin:=Zm Tryz.func61 (mC br m0)
abbrev u9:Mdl:=c9 Tryz.f145 19 tt false false [] [(61,qin)] XF (Zf ZA (.fn 61 (Ze ZK))) [] Y4 Xe
theorem qgf:Zj 145 u9:=Zm Tryz.func145 (mC qt8 m0)
abbrev qo:Mdl:=c9 Tryz.f60 9 tt false false [] [(145,u9)] XF (Zf ZA (.fn 61 (Ze ZK))) [] Y3 .z
theorem qcz:Zj 60 qo:=Zm Tryz.func60 (mC qgf m0)
abbrev qml:Mdl:=c9 Tryz.f15 43 tt false false [] [(56,qmk),(57,qbb),(58,qcc),(59,qts),(60,qo)] XH (Ze Zw) [] Y7 .z
theorem qy7:Zj 15 qml:=Zm Tryz.func15 (mC qy6 (mC qg6 (mC qlu (mC q5z (mC qcz m0)))))
theorem q31:qml.m ((j22,()),())=some (((true,(0:Int),()):Bool×Int×Unit),()):=by kernel_rfl
def we(x:bk):Bool:=decide (x=j22)
theorem q1i{x:bk}(h:we x=true):x=j22:=W8 h
abbrev qj7:Mdl:=ar (Ze Zw) [] [] 2 Y7 (B:=Shp.den Y7) (fun b=>b) (fun a=>bif we a.1.1 then some (((true,(0:Int),()):Bool×Int×Unit),())else none)
theorem qvt:Zj 15 qj7:=q4m qy7 fun a b h=>by
 obtain⟨⟨x,⟨⟩⟩,⟨⟩⟩:=a;have h:(bif we x then some (((true,(0:Int),()):Bool×Int×Unit),())else none)=some b:=h;cases e:we x with
 |true=>
  rw[e]at h;have e:x=j22:=q1i e;subst e;exact q31.trans h
 |false=>
  rw[e]at h;cases h
abbrev z6:Mdl:=c9 Tryz.f149 8 tt false false [false] [] [.cell 4 63] (Zf Zr ZO) [YF] ⟨[Yx],[YL]⟩ .z
theorem qa1:Zj 149 z6:=Zm Tryz.func149 m0
abbrev q5j:Mdl:=c9 Tryz.f216 47 tt false false [] [(37,ye)] XG (Ze ZU) [] Y3 .z
theorem je5:Zj 216 q5j:=Zm Tryz.func216 (mC xk m0)
abbrev qw0:Mdl:=rmN 152 Tryz.f152 48 tt false false [] [(216,q5j)] XJ (Za ZU Zr Zr) [] ⟨[Yp,Yu],[]⟩ (Zo XE)
theorem q8j:Zj 152 qw0:=rmR Tryz.func152 fits mixed (mC je5 m0) (ht:=ah)
abbrev q5i:Mdl:=c9 Tryz.f69 11 tt false false [] [(152,qw0)] XG (Ze ZU) [] Y3 .z
theorem qwz:Zj 69 q5i:=Zm Tryz.func69 (mC q8j m0)
abbrev qve:Mdl:=c9 Tryz.f258 6 tt false false [] [] XG (Ze Zr) [] Y3 .z
theorem q67:Zj 258 qve:=Zm Tryz.func258 m0
abbrev qon:Mdl:=c9 Tryz.f212 20 tt false false [] [(258,qve)] XF (Zf Zr Zr) [] Y4 .z
theorem q1b:Zj 212 qon:=Zm Tryz.func212 (mC q67 m0)
abbrev qc4:Mdl:=c9 Tryz.f301 8 tt false false [] [] XF (Zf ZN ZN) [] Y4 .z
theorem qng:Zj 301 qc4:=Zm Tryz.func301 m0
abbrev qqm:Mdl:=c9 Tryz.f292 8 tt false false [] [(301,qc4)] XF (Zf ZN ZN) [] Y4 .z
theorem q2n:Zj 292 qqm:=Zm Tryz.func292 (mC qng m0)
abbrev di:Mdl:=c9 Tryz.f293 39 tt false false [] [] XK (Za Yd Yd Z7) [] Y4 Xe
theorem ji:Zj 293 di:=Zm Tryz.func293 m0
abbrev q9h:Mdl:=c9 Tryz.f291 18 tt false false [] [] XG (Ze Zv) [] Y4 XE
theorem jgh:Zj 291 q9h:=Zm Tryz.func291 m0
abbrev qk6:Mdl:=c9 Tryz.f282 22 tt false false [] [(212,qon),(292,qqm),(293,di),(291,q9h)] XF (Zf ZU ZU) [] Y4 (Zo (.two (.ad [0,1,0,4,15,0,32,0,128,511,0,1024,0,4096,16383,32767,65535,131071] []) .z))
theorem qp4:Zj 282 qk6:=Zm Tryz.func282 (mC q1b (mC q2n (mC ji (mC jgh m0))))
abbrev jl:Mdl:=c9 Tryz.f299 53 tt false false [true] [(282,qk6)] [] (Zb ZO Zr Zr Z7) [YF] Y9 (Zo (Zp (Zo (.two (.one (Zo (Zp (.two (.two (.ad [0,0,3,7,15,15,15,111,239,15,15,1039,3599,7695,16383,32767,65535] []) .z) Xk)))) .z))))
theorem sn:Zj 299 jl:=Zm Tryz.func299 (mC qp4 m0)
abbrev lz:Mdl:=c9 Tryz.f306 38 tt false false [true] [] [] (Zh ZO Zr Zr Zr Z7) [YF] Y9 (Zo (Zp (Zo (.two (.one (.ad [0,0,0,6,0,0,0,96,0,0,0,1536,3840,7936,0,0,0,98304,245760,507904,1048335,2096911,4194303,8388607] [21,23])) .z))))
theorem wx:Zj 306 lz:=Zm Tryz.func306 m0
abbrev n4:Mdl:=c9 Tryz.f304 58 tt false false [true] [(306,lz)] [] (Zh ZO Zr Zr Zr Z7) [YF] Y9 (Zo (Zo (.two (Zp .z) .z)))
theorem zl:Zj 304 n4:=Zm Tryz.func304 (mC wx m0)
abbrev mj:Mdl:=rmN 300 Tryz.f300 220 tt false false [true] [(282,qk6),(304,n4)] [] (Zh ZO Zr Zr Zr Z7) [YF] Y9 (.two (Zo (.two (Zo (Zo (.two (Zp (Zo (.one (Zo (.two (.ad [0,0,0,6,14,0,0,96,224,511,1023] []) .z))))) (.two (Zo (Zp (Zo Xk))) .z)))) .z)) (.two (Zo (.two (Zo (Zo (.two (Zp (Zo (.one (Zo (.two (.ad [0,0,0,6,14,0,0,96,224,511,1023,2047] []) .z))))) (.two (Zo (Zp (Zo Xk))) .z)))) .z)) (Zo (Zo (Zo (Zo (Zo (.two (Zp (Zo (.one (Zo (.two (.ad [0,0,0,0,12,30,62,0,0,384,896,2047,4095,8191] []) .z))))) .z))))))))
theorem x8:Zj 300 mj:=rmR Tryz.func300 fits mixed (mC qp4 (mC zl m0)) (ht:=ah)
abbrev n5:Mdl:=c9 Tryz.f290 63 tt false false [true] [(299,jl),(300,mj)] [] (Za ZO Zr Z7) [YF] Y9 (Zo (Zo (.two (Zp .z) (Zo (Zp (Zo (.one (Zo (.two (Zp .z) .z)))))))))
theorem zm:Zj 290 n5:=Zm Tryz.func290 (mC sn (mC x8 m0))
abbrev ie:Mdl:=c9 Tryz.f281 9 tt false false [true] [(290,n5)] [] (Zf ZO Z7) [YF] Y9 .z
theorem qj:Zj 281 ie:=Zm Tryz.func281 (mC zm m0)
abbrev q93:Mdl:=c9 Tryz.f275 57 tt false false [] [(281,ie)] [.cell 4 63] (Zf Zr Z1) [] ⟨[Yx],[]⟩ XE
theorem jha:Zj 275 q93:=Zm Tryz.func275 (mC qj m0)
abbrev q0e:Mdl:=rmN 259 Tryz.f259 70 tt false true [] [(275,q93)] [.cell 2 63] (Ze ZU) [] ⟨[Yx],[]⟩ (Zo (Zo (.two XA (.two (Zo (.one (Zo (Zo (Zo (.two (.two (.ad [0,1,3,0,8,24,0,0,199,511] [8,9]) (.two (Zo (.two (.ad [0,1,3,7,0,16,48,112,0,496,1008,2047,4095] [10,11,12]) .z)) .z)) .z)))))) .z))))
theorem jbc:Zj 259 q0e:=rmR Tryz.func259 fits mixed (mC jha m0) (ht:=ah)
abbrev qn8:Mdl:=c9 Tryz.f215 16 tt false false [] [(69,q5i),(259,q0e)] [.cell 2 63, .tmp 3] (Ze ZU) [] ⟨[Yx,Yq],[]⟩ .z
theorem qtm:Zj 215 qn8:=Zm Tryz.func215 (mC qwz (mC jbc m0))
abbrev o9:Mdl:=c9 Tryz.f148 61 tt false false [true,false] [(215,qn8),(62,bp)] [.tmp 12] (Zi ZP Zr ZE ZE ZU Zv) [YK, YG] Y5 (Zo (Zo (Zo (.two Xx Xe))))
theorem tz:Zj 148 o9:=Zm Tryz.func148 (mC qtm (mC br m0))
abbrev qc6:Mdl:=c9 Tryz.f64 63 tt false false [true,false] [(47,bh),(149,z6),(148,o9)] XG (Ze ZP) [YK, YG] Y5 (Zo (.two (Zo (Zp (Zo (Zo (.two (.one (Zo (Zo (Zp Xo)))) .z))))) .z))
theorem qni:Zj 64 qc6:=Zm Tryz.func64 (mC be (mC qa1 (mC tz m0)))
abbrev pb:Mdl:=c9 Tryz.f150 43 tt false false [] [(62,bp)] XK (Za (.rp false zt.ty) Zr ZB) [] Xb XE
theorem t6:Zj 150 pb:=Zm Tryz.func150 (mC br m0)
abbrev um:Mdl:=c9 Tryz.f68 15 tt false false [] [] XF (Zf Zv Zr) [] Y3 .z
theorem wc:Zj 68 um:=Zm Tryz.func68 m0
abbrev qaa:Mdl:=c9 Tryz.f65 103 tt false false [true,false] [(150,pb),(68,um),(149,z6),(148,o9)] XG (Ze ZP) [YK, YG] Y5 (Zo (.two (Zo (Zp (Zo (Zo (.two (.one (Zo (Zo (Zo (.two (.two (.ad [0,1,3,7,15,31,63,127,255,511,1023,2047,511,4607,12799,32767,65535] []) .z) (.two (.ad [0,1,3,7,0,16,48,127,255,0,512,1536,3584,0,8192,24576,65024,130560,0,0,786943,2097151] [20,21]) (Zo (.two (.two (.ad [0,0,2,6,0,16,0,64,0,256,0,1024,3840,7936,0,16384,49152,114688,262143,524287] [13,18,19]) .z) .z)))))))) .z))))) .z))
theorem qj6:Zj 65 qaa:=Zm Tryz.func65 (mC t6 (mC wc (mC qa1 (mC tz m0))))
abbrev qg2:Mdl:=c9 Tryz.f66 102 tt false false [true,false] [(150,pb),(68,um),(149,z6),(148,o9)] XG (Ze ZP) [YK, YG] Y5 (Zo (.two (Zo (Zp (Zo (Zo (.two (.one (Zo (.two (.two (.ad [0,1,3,7,15,31,63,127,255,511,1023,2047,4095,8191,16383,2047,34815,100351,231423,524287,1048575] []) .z) (.two (.ad [0,1,3,7,0,16,48,112,15,511] []) (Zo (Zo (Zp (Zo Xo)))))))) .z))))) .z))
theorem qq2:Zj 66 qg2:=Zm Tryz.func66 (mC t6 (mC wc (mC qa1 (mC tz m0))))
abbrev z7:Mdl:=c9 Tryz.f151 122 tt false false [] [(150,pb),(68,um),(47,bh)] XJ (Za (.rp false zt.ty) Zr Zr) [] ⟨[Yr,Yu],[qhc]⟩ (Zo (.two (.ad [0,1,3,7,0,31,63,0,128,384,896,0,3968,8064,0,0,49279,131071] [16,17]) XE))
theorem qj4:Zj 151 z7:=Zm Tryz.func151 (mC t6 (mC wc (mC be m0)))
abbrev qvf:Mdl:=c9 Tryz.f149 8 tt false false [false,true] [] [.cell 4 63] (Zf Zr ZO) [.cs 63 3 3 (Zd Zr ZN Z1 Zr ZN ZG Zr ZN Z1), YF] ⟨[(0, .agg (Za Zu Yc ZO))],[.cs 63 3 3 (Zd Zu Yc Z1 Zu Yc ZG Zu Yc Z1), YF]⟩ .z
theorem q68:Zj 149 qvf:=Zm Tryz.func149 m0
abbrev qe7:Mdl:=c9 Tryz.f148 61 tt false false [true,false] [(215,qn8),(62,bp)] [.tmp 12] (Zi ZP Zr ZE ZE (.agg (Za Zr ZN Yd)) Zv) [YK, YG] Y5 (Zo (Zo (Zo (.two Xx Xe))))
theorem qoo:Zj 148 qe7:=Zm Tryz.func148 (mC qtm (mC br m0))
abbrev z8:Mdl:=c9 Tryz.f67 86 tt false false [true,false] [(151,z7),(149,qvf),(149,z6),(148,qe7)] XG (Ze ZP) [YK, YG] Y5 (Zo (.two (Zo (Zp (Zo (Zo (.two (.one (Zo (Zo (Zp (Zo (Zo (.two (.one (Zo (Zo (Zo (Zo (.two (Zo (.two (Zo (Zo (Zp (Zo (Zo (.two (.one (Zo (.ad [0,1,0,4,12,28,0,124,252,508,1020,2047,4095,8191] [11,13]))) .z)))))) .z)) (.two (.ad [0,0,0,4,0,16,0,64,0,0,512,1984,4032,0,0,16384,65472,131071,262143] [12,16,17,18]) .z))))))) .z))))))) .z))))) .z))
theorem qj5:Zj 67 z8:=Zm Tryz.func67 (mC qj4 (mC q68 (mC qa1 (mC qoo m0))))
abbrev qso:Mdl:=c9 Tryz.f16 135 tt false false [] [(27,cn),(63,uv),(64,qc6),(65,qaa),(66,qg2),(67,z8),(68,um)] [.cell 2 63, .tmp 3] (Ze ZS) [] ⟨[Yx,Yq],[]⟩ (Zo (Zo (Zo (.two (Zo (Zp (Zo (Zo (.two (.one (Zo (Zo (Zo (.ad [0,0,2,6,14,0,32,0,128,0,992,2016,4094,8191,16383,32767] [12,15]))))) .z))))) (Zo (.two (Zo (Zp (Zo (.one (Zo (Zo (.one (.u 5 .z)))))))) (.two (.one (Zo (Zo (.two (.ad [0,1,3,7,15,31,63,127,255,511,1023,2047,4095,8191,127,16511,65535,131071,262143,524287,1048575,2097151,4194303,8388607,16777215,33554431,67108863,1048575,135266303,536870911,1073741823,2147483647,4294967295] []) .z)))) .z)))))))
theorem q3l:Zj 16 qso:=Zm Tryz.func16 (mC ca (mC wj (mC qni (mC qj6 (mC qq2 (mC qj5 (mC wc m0)))))))
def jll:Shp:=⟨[jwt,qu6],[]⟩
abbrev q92:Mdl:=(ar (Ze ZU) [] [] 2 jll (B:=(ByteArray×Int)) (fun b=>((b.1,b.2,()),(()))) (fun a=>jrb a.1.1))
theorem jg9:Zj 17 q92:=j0p qwz (by kernel_rfl)
def q3g:Shp:=⟨[(0, .d true (.int .u64)),(1, .d true (.int .u64))],[]⟩
abbrev jm2:Ctx ((Int×Int)):=Zn 51 [] [] XI q3g (fun x=>(x.1.1,x.1.2.1))
theorem jm1:Zk jm2:=Zl m0
abbrev q9f:Mdl:=(ar (Zf Z9 Z9) [] [] 2 q3g (B:=(Int×Int)) (fun b=>((b.1,b.2,()),(()))) (fun a=>jc4 a.1.1 a.1.2.1))
theorem jgg:Zj 231 q9f:=jf Tryz.func231 rfl jm1 .z s0
abbrev jup:Ctx ((Int×Int)):=Zn 30 [(231,q9f)] [] XI q3g (fun x=>(x.1.1,x.1.2.1))
theorem juo:Zk jup:=Zl (mC jgg m0)
abbrev jh3:Mdl:=(ar (Zf Z9 Z9) [] [] 2 q3g (B:=(Int×Int)) (fun b=>((b.1,b.2,()),(()))) (fun a=>jm0 a.1.1 a.1.2.1))
theorem jm3:Zj 173 jh3:=jf Tryz.func173 rfl juo .z s0
def ly:Shp:=⟨[q9s],[q4o]⟩
abbrev mi:Ctx ((List ag)):=Zn 48 [(173,jh3)] [au _ 48 [] x6 (C:=Unit) (S:=(Int×(List ag))) (fun x=>((),(x.1.2.1,x.2.1))) x5 (CE:=Unit) (E:=(List ag)) (fun c e=>(((),()),(e,()))) (fun c=>()) (fun{R} c a nx dn rt=>k6 a.1 a.2 nx dn rt)] XF ly (fun x=>x.2.1)
theorem mg:Zk mi:=Zl (mC jm3 m0)
theorem yq:a8 Tryz.prog mi 0 (lc 0 Tryz.f86 575):=lp rfl mg (Zo (.one (.d [0,0,0,6,0,0,48,126,255,511] [7,8,9] []))) s0 (fun c a=>(((),a.1,()),(a.2,()))) (fun y=>((),y.2.1))
abbrev mh:Mdl:=(ar (Zf ZH Zr) [] [] 1 ly (B:=(List ag)) (fun b=>(((),()),(b,()))) (fun a=>dx a.1.1 a.1.2.1))
theorem x7:Zj 86 mh:=jf Tryz.func86 rfl mg (Zo (Zo (Zo (Zo (Zo (Zo (.two (.s 0) .z))))))) (sC yq s0)
abbrev jg2:Ctx ((List ag)):=Zn 9 [(86,mh)] [] XG ly (fun x=>x.2.1)
theorem jg1:Zk jg2:=Zl (mC x7 m0)
abbrev qn5:Mdl:=(ar (Ze Zw) [] [] 1 ly (B:=(List ag)) (fun b=>(((),()),(b,()))) (fun a=>qdn a.1.1))
theorem qs8:Zj 29 qn5:=jf Tryz.func29 rfl jg1 .z s0
abbrev q75:Ctx (Bool):=Zn 35 [] [] XG qzz (fun x=>x.1.1)
theorem q74:Zk q75:=Zl m0
abbrev qpu:Mdl:=(ar (Ze (.d false ag.ty)) [] [] 1 qzz (B:=Bool) (fun b=>((b,()),(()))) (fun a=>qa4 a.1.1))
theorem q2d:Zj 181 qpu:=jf Tryz.func181 rfl q74 .z s0
abbrev iv:Ctx (Int):=Zn 19 [(181,qpu)] [au _ 19 [] qu (C:=((List ag)×Int)) (S:=Int) (fun x=>((x.1.1,x.1.2.2.1),(pe3 x.1))) jd5 (CE:=Unit) (E:=Unit) (fun c e=>((()),(()))) (fun c=>()) (fun{R} c a nx dn rt=>ch c.1 c.2 a nx dn rt)] XF ry (fun x=>x.1.1)
theorem ir:Zk iv:=Zl (mC q2d m0)
theorem ro:a8 Tryz.prog iv 0 (lc 0 Tryz.f234 37):=lp rfl ir .z s0 (fun c a=>((c.1,(()),c.2,a,()),(()))) (fun y=>((),()))
abbrev iu:Mdl:=(ar (Zf ZH (.fn 181 .nil)) [] [] 1 ry (B:=Int) (fun b=>((b,()),(()))) (fun a=>d8 a.1.1))
theorem qv:Zj 234 iu:=jf Tryz.func234 rfl ir Xf (sC ro s0)
abbrev qh:Ctx (Bool):=Zn 9 [(234,iu)] [] XF qzz (fun x=>x.1.1)
theorem qg:Zk qh:=Zl (mC qv m0)
abbrev gc:Mdl:=(ar (Zf ZH (.fn 181 .nil)) [] [] 1 qzz (B:=Bool) (fun b=>((b,()),(()))) (fun a=>dh a.1.1))
theorem ox:Zj 180 gc:=jf Tryz.func180 rfl qg .z s0
abbrev jew:Ctx (Bool):=Zn 16 [(180,gc)] [] XF qzz (fun x=>x.1.1)
theorem jev:Zk jew:=Zl (mC ox m0)
abbrev qwn:Mdl:=(ar (Zf Zw ZH) [] [] 1 qzz (B:=Bool) (fun b=>((b,()),(()))) (fun a=>qgt a.1.1 a.1.2.1))
theorem q76:Zj 94 qwn:=jf Tryz.func94 rfl jev .z s0
abbrev jfx:Ctx (ByteArray):=Zn 27 [] [au _ 27 [] jl0 (C:=(qL1×Int)) (S:=(Int×qL1)) (fun x=>((x.1.2.1,x.1.2.2.1),((pe3 x.1),x.2.1))) jlz (CE:=Unit) (E:=qL1) (fun c e=>(((),()),(e,()))) (fun c=>()) (fun{R} c a nx dn rt=>qjp c.1 c.2 a.1 a.2 nx dn rt)] XG jnb (fun x=>x.1.1)
theorem jfv:Zk jfx:=Zl m0
theorem jo5:a8 Tryz.prog jfx 0 (lc 0 Tryz.f183 75):=lp rfl jfv .z s0 (fun c a=>(((),c.1,c.2,a.1,()),(a.2,()))) (fun y=>((),y.2.1))
abbrev jfw:Mdl:=(ar (Ze Zv) [] [] 1 jnb (B:=ByteArray) (fun b=>((b,()),(()))) (fun a=>qgj a.1.1))
theorem jl1:Zj 183 jfw:=jf Tryz.func183 rfl jfv XC (sC jo5 s0)
abbrev qwa:Ctx ((Int×qL1)):=Zn 66 [(225,qko),(124,bg),(223,qy)] [au _ 66 [] jgw (C:=(qL1×Int×ByteArray×qL1×qL1)) (S:=(Int×qL1)) (fun x=>((x.1.2.2.1,(pe3 x.1),x.2.1.1,x.2.1.2.1,x.2.1.2.2.1),((pe4 x.1),x.2.2.1))) jgv (CE:=(ByteArray×qL1×qL1)) (E:=qL1) (fun c e=>(((),(),()),((c.1,c.2.1,c.2.2,()),e,()))) (fun c=>(c.2.2.1,(pe3 c),(pf4 c))) (fun{R} c a nx dn rt=>qgr c.1 c.2.1 c.2.2.1 (pe3 c) (pf4 c) a.1 a.2 nx dn rt),au _ 66 [] jgy (C:=(qL1×Int)) (S:=(Int×qL1)) (fun x=>((x.1.2.1,x.1.2.2.1),((pe3 x.1),x.2.1))) jgx (CE:=Unit) (E:=qL1) (fun c e=>(((),()),(e,()))) (fun c=>()) (fun{R} c a nx dn rt=>qgs c.1 c.2 a.1 a.2 nx dn rt)] XJ q91 (fun x=>(x.1.2.1,x.2.1))
theorem qv8:Zk qwa:=Zl (mC qpe (mC bc (mC v7 m0)))
theorem jli:a8 Tryz.prog qwa 1 (lc 2 Tryz.f190 1215):=lp rfl qv8 .z s0 (fun c a=>(((),c.1,c.2,a.1,()),(a.2,()))) (fun y=>((),y.2.1))
theorem jlh:a8 Tryz.prog qwa 0 (lc 0 Tryz.f190 607):=lp rfl qv8 .z s0 (fun c a=>(((),(),c.1,c.2.1,a.1,()),((c.2.2.1,(pe3 c),(pf4 c),()),a.2,()))) (fun y=>((y.2.1.1,y.2.1.2.1,y.2.1.2.2.1),y.2.2.1))
abbrev qv9:Mdl:=(ar (Za Zw Zv Zr) [] [] 2 q91 (B:=(Int×qL1)) (fun b=>(((),b.1,()),(b.2,()))) (fun a=>q1v a.1.1 a.1.2.1 a.1.2.2.1))
theorem qz7:Zj 190 qv9:=jf Tryz.func190 rfl qv8 (Zo (Zo (Zo (Zo (Zo (.two XB Xn)))))) (sC jlh (sC jli s0))
abbrev jom:Ctx ((Int×qL1)):=Zn 18 [(189,qdj),(190,qv9)] [] XJ q91 (fun x=>(x.1.2.1,x.2.1))
theorem jol:Zk jom:=Zl (mC qf1 (mC qz7 m0))
abbrev qch:Mdl:=(ar (Za Zw Zv Zr) [] [] 2 q91 (B:=(Int×qL1)) (fun b=>(((),b.1,()),(b.2,()))) (fun a=>xl a.1.1 a.1.2.1 a.1.2.2.1))
theorem qaf:Zj 111 qch:=jf Tryz.func111 rfl jol .z s0
def qty:Shp:=⟨[YE,qu6],[]⟩
abbrev qli:Ctx ((o7×Int)):=⟨126,tt,false,true,[],gp [(163,nt),(124,bg),(183,jfw),(111,qch)],iw [au _ 126 [] q80 (C:=(Int×Int×qL1×Int×Int×(List af)×Int×Int×qL2×(List ak)×Bool)) (S:=(Int×Bool×(List (ByteArray×Int))×qL2×(List ak))) (fun x=>((x.1.1,(pe5 x.1),(pe6 x.1),(pe7 x.1),x.2.1.1,x.2.1.2.1,x.2.1.2.2.1,(pe3 x.2.1),x.2.2.1.1,x.2.2.1.2.1,x.2.2.1.2.2.1),((pf8 x.1).1,(pe3 x).2.2.1,(pe4 x),(pe5 x),(pe6 x)))) q8z (CE:=(Int×Int×Int×(List af)×Int×Int×qL2×(List ak)×Bool)) (E:=(Bool×(List (ByteArray×Int))×qL2×(List ak))) (fun c e=>((c.1,(),(),(),(),c.2.1,()),((c.2.2.1,(pe3 c),(pe4 c),(pe5 c),()),((pe6 c),(pe7 c),(pf8 c),()),((),(),e.1,()),e.2.1,e.2.2.1,e.2.2.2,()))) (fun c=>(c.1,c.2.1,(pe4 c),(pe5 c),(pe6 c),(pe7 c),(pf8 c).1,(pf8 c).2.1,(pf8 c).2.2)) (fun{R} c a nx dn rt=>kb c.1 c.2.1 c.2.2.1 (pe3 c) (pe4 c) (pe5 c) (pe6 c) (pe7 c) (pf8 c).1 (pf8 c).2.1 (pf8 c).2.2 a.1 a.2.1 a.2.2.1 (pe3 a) (pf4 a) nx dn rt),au _ 126 [] q8z (C:=(Int×Int×(List af)×Int×Int×qL2×(List ak)×Bool)) (S:=(Int×Bool×(List (ByteArray×Int))×qL2×(List ak))) (fun x=>((x.1.1,x.2.1.1,x.2.1.2.1,x.2.1.2.2.1,(pe3 x.2.1),x.2.2.1.1,x.2.2.1.2.1,x.2.2.1.2.2.1),((pe5 x.1),(pe3 x).2.2.1,(pe4 x),(pe5 x),(pe6 x)))) q81 (CE:=(qL2×(List ak)×Bool)) (E:=(Bool×qL2×(List ak))) (fun c e=>(((),(),()),((c.1,c.2.1,c.2.2,()),((),(),e.1,()),e.2.1,e.2.2,()))) (fun c=>((pe5 c),(pe6 c),(pf7 c))) (fun{R} c a nx dn rt=>nk c.1 c.2.1 c.2.2.1 (pe3 c) (pe4 c) (pe5 c) (pe6 c) (pf7 c) a.1 a.2.1 a.2.2.1 (pe3 a) (pf4 a) nx dn rt)],bx 126 tt [] [.cell 6 98, .tmp 7] qty (fun x=>(x.1.1,x.1.2.1))⟩
theorem qlg:Zk qli:=Zl (mC ni (mC bc (mC jl1 (mC qaf m0))))
theorem jbr:a8 Tryz.prog qli 0 (lc 2 Tryz.f100 78431):=lp rfl qlg (Zo (Zo (.two (.one (Zo (.two (.d [0,0,2,0,14,30,0,127,255,511,511,1023,4095] [] []) .z))) .z))) s0 (fun c a=>((c.1,(),(),(),(),c.2.1,c.2.2.1,(pe3 c),a.1,()),(((pe4 c),(pe5 c),(pe6 c),(pe7 c),()),((pf8 c).1,(pf8 c).2.1,(pf8 c).2.2,()),((),(),a.2.1,()),a.2.2.1,(pe3 a),(pf4 a),()))) (fun y=>((y.1.1,(pe5 y.1),y.2.1.1,y.2.1.2.1,y.2.1.2.2.1,(pe3 y.2.1),y.2.2.1.1,y.2.2.1.2.1,y.2.2.1.2.2.1),((pe3 y).2.2.1,(pe4 y),(pe5 y),(pe6 y))))
theorem jbs:a8 Tryz.prog qli 1 (lc 0 Tryz.f100 607):=lp rfl qlg (Zo (.two (.one (.two (.d [0,0,2,0,14,30,63,127,255,255,511,2047] [] []) XB)) .z)) (sC jbr s0) (fun c a=>((c.1,(),(),(),(),a.1,()),((c.2.1,c.2.2.1,(pe3 c),(pe4 c),()),((pe5 c),(pe6 c),(pf7 c),()),((),(),a.2.1,()),a.2.2.1,(pe3 a),(pf4 a),()))) (fun y=>((y.2.1.1,y.2.1.2.1,y.2.1.2.2.1),(y.2.2.1.2.2.1,(pe3 y),(pe4 y))))
abbrev qlh:Mdl:=(ar (Za Zw Zv Zr) [] [] 2 qty (B:=(o7×Int)) (fun b=>((b.1,b.2,()),(()))) (fun a=>ql a.1.1 a.1.2.1 a.1.2.2.1))
theorem qql:Zj 100 qlh:=jf Tryz.func100 rfl qlg (Zo (Zo (Zo XD))) (sC jbs s0)
abbrev jhp:Ctx (Bool):=Zn 7 [(47,bh)] [] XL qzz (fun x=>x.1.1)
theorem jho:Zk jhp:=Zl (mC be m0)
abbrev q0w:Mdl:=(ar (Zf Zv ZJ) [] [] 1 qzz (B:=Bool) (fun b=>((b,()),(()))) (fun a=>qjo a.1.1 a.1.2.1))
theorem jbt:Zj 184 q0w:=jf Tryz.func184 rfl jho .z s0
abbrev s5:Ctx (Int):=Zn 19 [(184,q0w)] [au _ 19 [] qem (C:=(qL2×qL1×Int)) (S:=Int) (fun x=>((x.1.1,x.1.2.1.1,x.1.2.2.1),(pe3 x.1))) jd5 (CE:=Unit) (E:=Unit) (fun c e=>((()),(()))) (fun c=>()) (fun{R} c a nx dn rt=>fc c.1 c.2.1 c.2.2 a nx dn rt)] XF ry (fun x=>x.1.1)
theorem sy:Zk s5:=Zl (mC jbt m0)
theorem qgc:a8 Tryz.prog s5 0 (lc 0 Tryz.f145 37):=lp rfl sy .z s0 (fun c a=>((c.1,(c.2.1,()),c.2.2,a,()),(()))) (fun y=>((),()))
abbrev s4:Mdl:=(ar (Zf ZA (.fn 184 (Ze ZJ))) [] [] 1 ry (B:=Int) (fun b=>((b,()),(()))) (fun a=>l6 a.1.1 a.1.2.1.1))
theorem qen:Zj 145 s4:=jf Tryz.func145 rfl sy Xf (sC qgc s0)
abbrev jo4:Ctx (Int):=Zn 9 [(145,s4)] [] XF ry (fun x=>x.1.1)
theorem jo3:Zk jo4:=Zl (mC qen m0)
abbrev qxp:Mdl:=(ar (Zf (.d false o7.ty) Zv) [] [] 1 ry (B:=Int) (fun b=>((b,()),(()))) (fun a=>qlj a.1.1 a.1.2.1))
theorem q0x:Zj 102 qxp:=jf Tryz.func102 rfl jo3 .z s0
def qm1:Shp:=⟨[q9r,qu6],[]⟩
abbrev yh:Ctx (((List (Int×(List ab)))×Int×Int×Int)):=⟨139,tt,false,true,[],gp [(163,nt),(100,qlh),(101,qdg),(102,qxp)],iw [au _ 139 [] q15 (C:=((List ak)×Int×(List (Int×(List ab)))×Int×Int×qL2×(List ak)×Bool×Int×Int×(List (Int×(List ab))))) (S:=(Bool×Int×(List Bool))) (fun x=>(((pe5 x.1),(pe6 x.1),x.2.1.1,x.2.1.2.1,x.2.1.2.2.1,x.2.2.1.1,x.2.2.1.2.1,x.2.2.1.2.2.1,(pe3 x).2.1,(pe3 x).2.2.1,(pe5 x)),((pe4 x.1),(pe7 x.1),(pe4 x)))) q14 (CE:=((List (Int×(List ab)))×Int×Int×qL2×(List ak)×Bool×Int×Int×(List (Int×(List ab))))) (E:=(Bool×(List Bool))) (fun c e=>(((),(),(),(),e.1,()),((c.1,c.2.1,c.2.2.1,()),((pe3 c),(pe4 c),(pe5 c),()),((),(pe6 c),(pe7 c),()),e.2,(pf8 c),()))) (fun c=>(c.2.2.1,(pe3 c),(pe4 c),(pe5 c),(pe6 c),(pe7 c),(pf8 c).1,(pf8 c).2.1,(pf8 c).2.2)) (fun{R} c a nx dn rt=>j7 c.1 c.2.1 c.2.2.1 (pe3 c) (pe4 c) (pe5 c) (pe6 c) (pe7 c) (pf8 c).1 (pf8 c).2.1 (pf8 c).2.2 a.1 a.2.1 a.2.2 nx dn rt),au _ 139 [] q14 (C:=((List (Int×(List ab)))×Int×Int×qL2×(List ak)×Bool×Int×Int×(List (Int×(List ab))))) (S:=(Bool×(List Bool))) (fun x=>((x.2.1.1,x.2.1.2.1,x.2.1.2.2.1,x.2.2.1.1,x.2.2.1.2.1,x.2.2.1.2.2.1,(pe3 x).2.1,(pe3 x).2.2.1,(pe5 x)),((pe4 x.1),(pe4 x)))) q16 (CE:=((List (Int×(List ab)))×Int×Int×qL2×(List ak)×Bool×Int×Int×(List (Int×(List ab))))) (E:=(List Bool)) (fun c e=>(((),(),(),(),()),((c.1,c.2.1,c.2.2.1,()),((pe3 c),(pe4 c),(pe5 c),()),((),(pe6 c),(pe7 c),()),e,(pf8 c),()))) (fun c=>(c.1,c.2.1,c.2.2.1,(pe3 c),(pe4 c),(pe5 c),(pe6 c),(pe7 c),(pf8 c))) (fun{R} c a nx dn rt=>j8 c.1 c.2.1 c.2.2.1 (pe3 c) (pe4 c) (pe5 c) (pe6 c) (pe7 c) (pf8 c) a.1 a.2 nx dn rt),au _ 139 [] q19 (C:=((List Bool)×(List ak)×Int×(List (Int×(List ab)))×Int×Int×Int×Int)) (S:=(Int×(List (Int×(List ab))))) (fun x=>((x.1.2.2.1,(pe3 x.1),(pe4 x.1),x.2.1.1,x.2.1.2.1,x.2.1.2.2.1,x.2.2.1.2.1,x.2.2.1.2.2.1),((pe5 x.1),(pe3 x)))) q18 (CE:=((List (Int×(List ab)))×Int×Int×Int×Int)) (E:=(List (Int×(List ab)))) (fun c e=>(((),(),()),((c.1,c.2.1,c.2.2.1,()),((),(pe3 c),(pf4 c),()),e,()))) (fun c=>((pe3 c),(pe4 c),(pe5 c),(pe6 c),(pf7 c))) (fun{R} c a nx dn rt=>gi c.1 c.2.1 c.2.2.1 (pe3 c) (pe4 c) (pe5 c) (pe6 c) (pf7 c) a.1 a.2 nx dn rt)],bx 139 tt [] [.cell 6 87, .tmp 7] qm1 (fun x=>(x.1.1.1,x.1.1.2.1,x.1.1.2.2.1,x.1.2.1))⟩
theorem yg:Zk yh:=Zl (mC ni (mC qql (mC qdh (mC q0x m0))))
theorem q5a:a8 Tryz.prog yh 0 (lc 2 Tryz.f95 2529279):=lp rfl yg .z s0 (fun c a=>(((),(),(),(),a.1,c.1,c.2.1,a.2.1,()),((c.2.2.1,(pe3 c),(pe4 c),()),((pe5 c),(pe6 c),(pe7 c),()),((),(pf8 c).1,(pf8 c).2.1,()),a.2.2,(pf8 c).2.2,()))) (fun y=>((y.2.1.1,y.2.1.2.1,y.2.1.2.2.1,y.2.2.1.1,y.2.2.1.2.1,y.2.2.1.2.2.1,(pe3 y).2.1,(pe3 y).2.2.1,(pe5 y)),((pe4 y.1),(pe4 y))))
theorem q5c:a8 Tryz.prog yh 2 (lc 4 Tryz.f95 77823):=lp rfl yg (Zo (Zo (.two (.one (Zo (Zo (.two (.d [0,1,0,4,0,16,0,64,240,0,512,0,2048,7680,15872,32752,65535] [15,16] []) .z)))) .z))) s0 (fun c a=>(((),(),c.1,c.2.1,c.2.2.1,a.1,()),(((pe3 c),(pe4 c),(pe5 c),()),((),(pe6 c),(pf7 c),()),a.2,()))) (fun y=>((y.2.1.1,y.2.1.2.1,y.2.1.2.2.1,y.2.2.1.2.1,y.2.2.1.2.2.1),(pe3 y)))
theorem q5b:a8 Tryz.prog yh 1 (lc 0 Tryz.f95 38911):=lp rfl yg (Zo (.one Xy)) (sC q5a s0) (fun c a=>(((),(),(),(),a.1,()),((c.1,c.2.1,c.2.2.1,()),((pe3 c),(pe4 c),(pe5 c),()),((),(pe6 c),(pe7 c),()),a.2,(pf8 c),()))) (fun y=>((y.2.1.1,y.2.1.2.1,y.2.1.2.2.1,y.2.2.1.1,y.2.2.1.2.1,y.2.2.1.2.2.1,(pe3 y).2.1,(pe3 y).2.2.1,(pe5 y)),(pe4 y)))
abbrev qpj:Mdl:=(ar (Za Zw Zv Zr) [] [] 2 qm1 (B:=((List (Int×(List ab)))×Int×Int×Int)) (fun b=>(((b.1,b.2.1,b.2.2.1,()),b.2.2.2,()),(()))) (fun a=>db a.1.1 a.1.2.1 a.1.2.2.1))
theorem q2a:Zj 95 qpj:=jf Tryz.func95 rfl yg (Zo (Zo (Zo (Zo (Zo (Zo (Zo (.two (.d [0,0,0,6,0,16,48,127,0,511] [9] []) (Zo (Zo (Zo (.two (Zo (.s 1)) (.two (Zo (.s 2)) .z))))))))))))) (sC q5b (sC q5c s0))
abbrev jeu:Ctx (((List (Int×(List ab)))×Int×Int×Int)):=Zn 26 [(27,cn),(94,qwn),(95,qpj)] [] [.cell 8 87, .tmp 9] qm1 (fun x=>(x.1.1.1,x.1.1.2.1,x.1.1.2.2.1,x.1.2.1))
theorem jet:Zk jeu:=Zl (mC ca (mC q76 (mC q2a m0)))
abbrev qdk:Mdl:=(ar (Zb Zw Zv ZH Zr) [] [] 2 qm1 (B:=((List (Int×(List ab)))×Int×Int×Int)) (fun b=>(((b.1,b.2.1,b.2.2.1,()),b.2.2.2,()),(()))) (fun a=>vj a.1.1 a.1.2.1 a.1.2.2.1 (pe3 a.1)))
theorem qf2:Zj 31 qdk:=jf Tryz.func31 rfl jet .z s0
def qff:Shp:=⟨[qy2,zei],[]⟩
abbrev qwl:Ctx ((Int×Bool)):=Zn 14 [] [] XH qff (fun x=>(x.1.1,x.1.2.1))
theorem qwk:Zk qwl:=Zl m0
abbrev pe:Mdl:=(ar (Ze (.agg (Za ZC Zr Zr))) [] [] 2 qff (B:=(Int×Bool)) (fun b=>((b.1,b.2,()),(()))) (fun a=>me a.1.1.1 a.1.1.2.1 a.1.1.2.2.1))
theorem ua:Zj 32 pe:=jf Tryz.func32 rfl qwk (Zo (Zo (.two (.d [0,1,0,4,12,28,60,3,255] [] []) .z))) s0
abbrev qkv:Ctx (Int):=Zn 9 [] [] XL ry (fun x=>x.1.1)
theorem qku:Zk qkv:=Zl m0
abbrev xq:Mdl:=(ar (Zf Zr ZF) [] [] 1 ry (B:=Int) (fun b=>((b,()),(()))) (fun a=>fo a.1.1 a.1.2.1))
theorem qia:Zj 170 xq:=jf Tryz.func170 rfl qku .z s0
abbrev q2c:Ctx (Bool):=Zn 34 [] [] XK qzz (fun x=>x.1.1)
theorem q2b:Zk q2c:=Zl m0
abbrev ub:Mdl:=(ar (Za (.d false ae.ty) (.d false ae.ty) ZB) [] [] 1 qzz (B:=Bool) (fun b=>((b,()),(()))) (fun a=>lm a.1.1 a.1.2.1 a.1.2.2.1))
theorem xw:Zj 182 ub:=jf Tryz.func182 rfl q2b .z s0
def qb:Shp:=⟨[q9s],[qod]⟩
abbrev lh:Ctx ((List ae)):=Zn 77 [(170,xq),(182,ub)] [au _ 77 [] qlx (C:=((List ag)×Bool×Int×Int×Int×(List (Int×(List ab)))×Nat×(List ab)×Int×(List (Int×(List ab)))×Int×Int)) (S:=(Bool×Int×(List ae))) (fun x=>((x.1.1.1,x.1.2.1,(pe5 x.1),(pe6 x.1),(pe7 x.1),(pf8 x.1).1,(pf8 x.1).2.1,(pf8 x.1).2.2.1,(pe3 (pf8 x.1)),x.2.1.1,x.2.1.2.1,x.2.1.2.2.1),((pe4 x.1),(pe4 (pf8 x.1)),x.2.2.1))) qlw (CE:=((List ag)×Bool×Int×Int×(List (Int×(List ab)))×Nat×(List (Int×(List ab)))×Int×Int)) (E:=(Bool×(List ae))) (fun c e=>(((c.1,()),c.2.1,(),(),e.1,c.2.2.1,(pe3 c),(pe4 c),(pe5 c),()),(((pe6 c),(pe7 c),(pf8 c),()),e.2,()))) (fun c=>(c.1,c.2.1,(pe3 c),(pe4 c),(pe5 c),(pe6 c),(pf8 c).2.1,(pf8 c).2.2.1,(pf8 c).2.2.2)) (fun{R} c a nx dn rt=>yw c.1 c.2.1 c.2.2.1 (pe3 c) (pe4 c) (pe5 c) (pe7 c) (pf8 c).1 (pf8 c).2.1 (pf8 c).2.2.1 (pf8 c).2.2.2 a.1 a.2.1 a.2.2 nx dn rt),qf6 _ 77 tt false [] (rc Tryz.f96 10647) qly (C:=((List ag)×Bool×Int×Int×(List (Int×(List ab)))×(List (Int×(List ab)))×Int×Int)) (S:=(Bool×(List ae))) (fun x=>((x.1.1.1,x.1.2.1,(pe5 x.1),(pe6 x.1),(pe7 x.1),x.2.1.1,x.2.1.2.1,x.2.1.2.2.1),((pe4 x.1),x.2.2.1))) (fun c a=>(((c.1,()),c.2.1,(),(),a.1,c.2.2.1,(pe3 c),(pe4 c),()),(((pe5 c),(pe6 c),(pf7 c),()),a.2,()))) (fun c=>(pe4 c)) (fun{R} c a en nx rt=>yx c.1 c.2.1 c.2.2.1 (pe3 c) (pe4 c) (pe5 c) (pe6 c) (pf7 c) a.1 a.2 en nx rt),q7p _ 77 [] ql0 (C:=((List ag)×Bool×Int×(List (Int×(List ab)))×Int×Int)) (S:=(Int×(List ae))) (fun x=>((x.1.1.1,x.1.2.1,(pe4 x.1),x.2.1.1,x.2.1.2.1,x.2.1.2.2.1),((pe5 x.1),x.2.2.1))) qlz (CE:=Unit) (E:=(List ae)) (fun c e=>(((),()),(e,()))) (fun c=>()) (fun{R} c a nx dn rt=>jq c.1 c.2.1 c.2.2.1 (pe3 c) (pe4 c) (pf5 c) a.1 a.2 nx dn rt)] XK qb (fun x=>x.2.1)
theorem lg:Zk lh:=Zl (mC qia (mC xw m0))
theorem qnq:a8 Tryz.prog lh 0 (lc 4 Tryz.f96 10168727):=lp rfl lg Xh s0 (fun c a=>(((c.1,()),c.2.1,(),(),a.1,c.2.2.1,(pe3 c),(pe4 c),(pe5 c),(pe6 c),(pe7 c),(pf8 c).1,a.2.1,()),(((pf8 c).2.1,(pf8 c).2.2.1,(pf8 c).2.2.2,()),a.2.2,()))) (fun y=>((y.1.1.1,y.1.2.1,(pe5 y.1),(pe6 y.1),(pe7 y.1),(pf8 y.1).1,y.2.1.1,y.2.1.2.1,y.2.1.2.2.1),((pe4 y.1),y.2.2.1)))
theorem qnr:a8 Tryz.prog lh 1 ((rc Tryz.f96 10647).code):=rl qT0 (.slice ab.ty) rfl lg XB (sC qnq s0) 85 28 29 30 32 false rfl
theorem qns:a8 Tryz.prog lh 2 (lc 0 Tryz.f96 151):=nl rfl lg Xq (sC qnr s0) (fun c a=>(((c.1,()),c.2.1,(),(),c.2.2.1,a.1,()),(((pe3 c),(pe4 c),(pf5 c),()),a.2,()))) (fun y=>((),y.2.1))
abbrev qci:Mdl:=(ar (Za (.agg (Za ZC Zr Zr)) (.fn 170 (Ze ZF)) ZB) [] [] 1 qb (B:=(List ae)) (fun b=>(((),()),(b,()))) (fun a=>fk a.1.1.1 a.1.1.2.1 a.1.1.2.2.1 a.1.2.1.1 a.1.2.2.1))
theorem yz:Zj 96 qci:=jf Tryz.func96 rfl lg (Zo Xs) (sC qns s0)
abbrev qaj:Mdl:=(ar (Za (.agg (Za ZC Zr Zr)) (.fn 170 (Ze ZF)) ZB) [] [] 1 qb (B:=(List ae)) (fun b=>(((),()),(b,()))) (fun a=>rg a.1.1.1 a.1.1.2.1 a.1.1.2.2.1 a.1.2.1.1 a.1.2.2.1))
theorem qkq:Zj 96 qaj:=q4m yz (fun _ b h=>qkr _ _ _ _ _ b h)
abbrev xn:Ctx (Bool):=Zn 51 [] [au _ 51 [] qrr (C:=(Int×(List ab)×Int×(List (Int×(List ab)))×Int×Int)) (S:=(Int×(List (Int×Bool))×qL1)) (fun x=>((x.1.1,(pe4 x.1),(pe5 x.1),x.2.1.1,x.2.1.2.1,x.2.1.2.2.1),((pe6 x.1),x.2.2.1,(pe3 x)))) qrq (CE:=(Int×(List (Int×(List ab)))×Int×Int)) (E:=((List (Int×Bool))×qL1)) (fun c e=>((c.1,(),(),(),()),((c.2.1,c.2.2.1,c.2.2.2,()),e.1,e.2,()))) (fun c=>(c.1,(pe3 c),(pe4 c),(pf5 c))) (fun{R} c a nx dn rt=>i6 c.1 c.2.1 c.2.2.1 (pe3 c) (pe4 c) (pf5 c) a.1 a.2.1 a.2.2 nx dn rt),au _ 51 [] qrq (C:=(Int×(List (Int×(List ab)))×Int×Int)) (S:=((List (Int×Bool))×qL1)) (fun x=>((x.1.1,x.2.1.1,x.2.1.2.1,x.2.1.2.2.1),(x.2.2.1,(pe3 x)))) jd5 (CE:=Unit) (E:=Unit) (fun c e=>((()),(()))) (fun c=>()) (fun{R} c a nx dn rt=>d7 c.1 c.2.1 c.2.2.1 c.2.2.2 a.1 a.2 nx dn rt)] XK qzz (fun x=>x.1.1)
theorem xm:Zk xn:=Zl m0
theorem quf:a8 Tryz.prog xn 0 (lc 2 Tryz.f229 9803):=lp rfl xm .z s0 (fun c a=>((c.1,(),(),(),c.2.1,c.2.2.1,a.1,()),(((pe3 c),(pe4 c),(pf5 c),()),a.2.1,a.2.2,()))) (fun y=>((y.1.1,y.2.1.1,y.2.1.2.1,y.2.1.2.2.1),(y.2.2.1,(pe3 y))))
theorem qug:a8 Tryz.prog xn 1 (lc 0 Tryz.f229 75):=lp rfl xm (Zo (.two (.one (Zo Xw)) .z)) (sC quf s0) (fun c a=>((c.1,(),(),(),()),((c.2.1,c.2.2.1,c.2.2.2,()),a.1,a.2,()))) (fun y=>((),()))
abbrev qhf:Mdl:=(ar (Za (.agg (Za ZC Zr Zr)) Zr Zr) [] [] 1 qzz (B:=Bool) (fun b=>((b,()),(()))) (fun a=>qx a.1.1.1 a.1.1.2.1 a.1.1.2.2.1 a.1.2.1 a.1.2.2.1))
theorem qru:Zj 229 qhf:=jf Tryz.func229 rfl xm XD (sC qug s0)
abbrev mc:Ctx (Bool):=Zn 81 [(229,qhf)] [au _ 81 [] qui (C:=((List ag)×(List ab)×Int×(List (Int×(List ab)))×Int×Int)) (S:=(Int×(List (Int×Bool))×qL1)) (fun x=>((x.1.1,(pe4 x.1),(pe5 x.1),x.2.1.1,x.2.1.2.1,x.2.1.2.2.1),((pe6 x.1),x.2.2.1,(pe3 x)))) quh (CE:=((List ag)×(List (Int×(List ab)))×Int×Int)) (E:=((List (Int×Bool))×qL1)) (fun c e=>((c.1,(),(),(),()),((c.2.1,c.2.2.1,c.2.2.2,()),e.1,e.2,()))) (fun c=>(c.1,(pe3 c),(pe4 c),(pf5 c))) (fun{R} c a nx dn rt=>ci c.1 c.2.1 c.2.2.1 (pe3 c) (pe4 c) (pf5 c) a.1 a.2.1 a.2.2 nx dn rt),au _ 81 [] quh (C:=((List ag)×(List (Int×(List ab)))×Int×Int)) (S:=((List (Int×Bool))×qL1)) (fun x=>((x.1.1,x.2.1.1,x.2.1.2.1,x.2.1.2.2.1),(x.2.2.1,(pe3 x)))) quj (CE:=((List ag)×(List (Int×(List ab)))×Int×Int)) (E:=(List (Int×Bool))) (fun c e=>((c.1,(),(),()),((c.2.1,c.2.2.1,c.2.2.2,()),e,()))) (fun c=>(c.1,c.2.1,c.2.2.1,c.2.2.2)) (fun{R} c a nx dn rt=>cj c.1 c.2.1 c.2.2.1 c.2.2.2 a.1 a.2 nx dn rt),au _ 81 [] qum (C:=((List ag)×Int×(List (Int×Bool))×Nat×(List ab)×Int×(List (Int×(List ab)))×Int×Int)) (S:=Int) (fun x=>((x.1.1,x.1.2.2.1,(pe3 x.1),(pe4 x.1),(pe5 x.1),(pe6 x.1),x.2.1.1,x.2.1.2.1,x.2.1.2.2.1),(pe7 x.1))) qul (CE:=((List ag)×(List (Int×Bool))×Nat×(List (Int×(List ab)))×Int×Int)) (E:=Unit) (fun c e=>((c.1,(),c.2.1,c.2.2.1,()),(((pe3 c),(pe4 c),(pf5 c),()),()))) (fun c=>(c.1,c.2.2.1,(pe3 c),(pe6 c),(pe7 c),(pf8 c))) (fun{R} c a nx dn rt=>bj c.1 c.2.1 c.2.2.1 (pe4 c) (pe5 c) (pe6 c) (pe7 c) (pf8 c) a nx dn rt),qf6 _ 81 tt false [] (rc Tryz.f171 23) qun (C:=((List ag)×(List (Int×Bool))×(List (Int×(List ab)))×Int×Int)) (S:=Unit) (fun x=>((x.1.1,x.1.2.2.1,x.2.1.1,x.2.1.2.1,x.2.1.2.2.1),())) (fun c a=>((c.1,(),c.2.1,()),((c.2.2.1,(pe3 c),(pf4 c),()),()))) (fun c=>c.2.1) (fun{R} c a en nx rt=>ju c.1 c.2.1 c.2.2.1 (pe3 c) (pf4 c) en nx rt)] XF qzz (fun x=>x.1.1)
theorem ma:Zk mc:=Zl (mC qru m0)
theorem qwi:a8 Tryz.prog mc 2 (lc 6 Tryz.f171 19863):=lp rfl ma .z s0 (fun c a=>((c.1,(),c.2.1,c.2.2.1,(pe3 c),(pe4 c),(pe5 c),a,()),(((pe6 c),(pe7 c),(pf8 c),()),()))) (fun y=>((y.1.1,y.1.2.2.1,(pe3 y.1),y.2.1.1,y.2.1.2.1,y.2.1.2.2.1),()))
theorem qwg:a8 Tryz.prog mc 0 (lc 2 Tryz.f171 4683):=lp rfl ma .z s0 (fun c a=>((c.1,(),(),(),c.2.1,c.2.2.1,a.1,()),(((pe3 c),(pe4 c),(pf5 c),()),a.2.1,a.2.2,()))) (fun y=>((y.1.1,y.2.1.1,y.2.1.2.1,y.2.1.2.2.1),(y.2.2.1,(pe3 y))))
theorem qwh:a8 Tryz.prog mc 1 (lc 0 Tryz.f171 75):=lp rfl ma (Zo (.two (.one Xw) .z)) (sC qwg s0) (fun c a=>((c.1,(),(),(),()),((c.2.1,c.2.2.1,c.2.2.2,()),a.1,a.2,()))) (fun y=>((y.1.1,y.2.1.1,y.2.1.2.1,y.2.1.2.2.1),y.2.2.1))
theorem qwj:a8 Tryz.prog mc 3 ((rc Tryz.f171 23).code):=rl qT0 .bool rfl ma (Zo (.s 2)) (sC qwi s0) 290 51 52 53 55 true rfl
abbrev qiu:Mdl:=(ar (Zf (.agg (Za ZC Zr Zr)) ZH) [] [] 1 qzz (B:=Bool) (fun b=>((b,()),(()))) (fun a=>gk a.1.1.1 a.1.1.2.1 a.1.1.2.2.1 a.1.2.1))
theorem qfe:Zj 171 qiu:=jf Tryz.func171 rfl ma (Zo (Zo (.two (Zo (.s 1)) (.two (.s 3) .z)))) (sC qwh (sC qwj s0))
abbrev qhg:Mdl:=(ar (Zf (.agg (Za ZC Zr Zr)) ZH) [] [] 1 qzz (B:=Bool) (fun b=>((b,()),(()))) (fun a=>ze a.1.1.1 a.1.1.2.1 a.1.1.2.2.1 a.1.2.1))
theorem qrv:Zj 171 qhg:=q4m qfe (fun _ b h=>qrw _ _ _ _ b h)
abbrev qkx:Ctx (Int):=Zn 9 [] [] XL ry (fun x=>x.1.1)
theorem qkw:Zk qkx:=Zl m0
abbrev xr:Mdl:=(ar (Zf Zr ZF) [] [] 1 ry (B:=Int) (fun b=>((b,()),(()))) (fun a=>fp a.1.1 a.1.2.1))
theorem qib:Zj 172 xr:=jf Tryz.func172 rfl qkw .z s0
abbrev lj:Ctx ((List ae)):=Zn 77 [(172,xr),(182,ub)] [au _ 77 [] ql2 (C:=((List ag)×Bool×Int×Int×Int×(List (Int×(List ab)))×Nat×(List ab)×Int×(List (Int×(List ab)))×Int×Int)) (S:=(Bool×Int×(List ae))) (fun x=>((x.1.1.1,x.1.2.1,(pe5 x.1),(pe6 x.1),(pe7 x.1),(pf8 x.1).1,(pf8 x.1).2.1,(pf8 x.1).2.2.1,(pe3 (pf8 x.1)),x.2.1.1,x.2.1.2.1,x.2.1.2.2.1),((pe4 x.1),(pe4 (pf8 x.1)),x.2.2.1))) ql1 (CE:=((List ag)×Bool×Int×Int×(List (Int×(List ab)))×Nat×(List (Int×(List ab)))×Int×Int)) (E:=(Bool×(List ae))) (fun c e=>(((c.1,()),c.2.1,(),(),e.1,c.2.2.1,(pe3 c),(pe4 c),(pe5 c),()),(((pe6 c),(pe7 c),(pf8 c),()),e.2,()))) (fun c=>(c.1,c.2.1,(pe3 c),(pe4 c),(pe5 c),(pe6 c),(pf8 c).2.1,(pf8 c).2.2.1,(pf8 c).2.2.2)) (fun{R} c a nx dn rt=>y0 c.1 c.2.1 c.2.2.1 (pe3 c) (pe4 c) (pe5 c) (pe7 c) (pf8 c).1 (pf8 c).2.1 (pf8 c).2.2.1 (pf8 c).2.2.2 a.1 a.2.1 a.2.2 nx dn rt),qf6 _ 77 tt false [] (rc Tryz.f96 10647) ql3 (C:=((List ag)×Bool×Int×Int×(List (Int×(List ab)))×(List (Int×(List ab)))×Int×Int)) (S:=(Bool×(List ae))) (fun x=>((x.1.1.1,x.1.2.1,(pe5 x.1),(pe6 x.1),(pe7 x.1),x.2.1.1,x.2.1.2.1,x.2.1.2.2.1),((pe4 x.1),x.2.2.1))) (fun c a=>(((c.1,()),c.2.1,(),(),a.1,c.2.2.1,(pe3 c),(pe4 c),()),(((pe5 c),(pe6 c),(pf7 c),()),a.2,()))) (fun c=>(pe4 c)) (fun{R} c a en nx rt=>y7 c.1 c.2.1 c.2.2.1 (pe3 c) (pe4 c) (pe5 c) (pe6 c) (pf7 c) a.1 a.2 en nx rt),q7p _ 77 [] ql5 (C:=((List ag)×Bool×Int×(List (Int×(List ab)))×Int×Int)) (S:=(Int×(List ae))) (fun x=>((x.1.1.1,x.1.2.1,(pe4 x.1),x.2.1.1,x.2.1.2.1,x.2.1.2.2.1),((pe5 x.1),x.2.2.1))) qlz (CE:=Unit) (E:=(List ae)) (fun c e=>(((),()),(e,()))) (fun c=>()) (fun{R} c a nx dn rt=>jr c.1 c.2.1 c.2.2.1 (pe3 c) (pe4 c) (pf5 c) a.1 a.2 nx dn rt)] XK qb (fun x=>x.2.1)
theorem li:Zk lj:=Zl (mC qib (mC xw m0))
theorem qnu:a8 Tryz.prog lj 0 (lc 4 Tryz.f96 10168727):=lp rfl li Xh s0 (fun c a=>(((c.1,()),c.2.1,(),(),a.1,c.2.2.1,(pe3 c),(pe4 c),(pe5 c),(pe6 c),(pe7 c),(pf8 c).1,a.2.1,()),(((pf8 c).2.1,(pf8 c).2.2.1,(pf8 c).2.2.2,()),a.2.2,()))) (fun y=>((y.1.1.1,y.1.2.1,(pe5 y.1),(pe6 y.1),(pe7 y.1),(pf8 y.1).1,y.2.1.1,y.2.1.2.1,y.2.1.2.2.1),((pe4 y.1),y.2.2.1)))
theorem qnv:a8 Tryz.prog lj 1 ((rc Tryz.f96 10647).code):=rl qT0 (.slice ab.ty) rfl li XB (sC qnu s0) 85 28 29 30 32 false rfl
theorem qnw:a8 Tryz.prog lj 2 (lc 0 Tryz.f96 151):=nl rfl li Xq (sC qnv s0) (fun c a=>(((c.1,()),c.2.1,(),(),c.2.2.1,a.1,()),(((pe3 c),(pe4 c),(pf5 c),()),a.2,()))) (fun y=>((),y.2.1))
abbrev qcj:Mdl:=(ar (Za (.agg (Za ZC Zr Zr)) (.fn 172 (Ze ZF)) ZB) [] [] 1 qb (B:=(List ae)) (fun b=>(((),()),(b,()))) (fun a=>fl a.1.1.1 a.1.1.2.1 a.1.1.2.2.1 a.1.2.1.1 a.1.2.2.1))
theorem y8:Zj 96 qcj:=jf Tryz.func96 rfl li (Zo Xs) (sC qnw s0)
abbrev qal:Mdl:=(ar (Za (.agg (Za ZC Zr Zr)) (.fn 172 (Ze ZF)) ZB) [] [] 1 qb (B:=(List ae)) (fun b=>(((),()),(b,()))) (fun a=>rh a.1.1.1 a.1.1.2.1 a.1.1.2.2.1 a.1.2.1.1 a.1.2.2.1))
theorem qks:Zj 96 qal:=q4m y8 (fun _ b h=>qkt _ _ _ _ _ b h)
def y9:Shp:=⟨[za5],[]⟩
abbrev qn4:Ctx (ag):=Zn 25 [(96,qci),(96,qcj),(171,qiu)] [] [.cell 4 32] y9 (fun x=>x.1.1)
theorem qn3:Zk qn4:=Zl (mC yz (mC y8 (mC qfe m0)))
abbrev qap:Mdl:=(ar (Zf (.agg (Za ZC Zr Zr)) ZH) [] [] 1 y9 (B:=ag) (fun b=>((b,()),(()))) (fun a=>ll a.1.1.1 a.1.1.2.1 a.1.1.2.2.1 a.1.2.1))
theorem qky:Zj 85 qap:=jf Tryz.func85 rfl qn3 .z s0
abbrev za:Mdl:=c9 Tryz.f85 25 tt false false [] [(96,qaj),(96,qal),(171,qhg)] [.cell 4 32] (Zf (.agg (Za ZC Zr Zr)) ZH) [] ⟨[Yz],[]⟩ .z
theorem qjg:Zj 85 za:=Zm Tryz.func85 (mC qkq (mC qks (mC qrv m0)))
def qis:Shp:=⟨[za5,qu6],[]⟩
abbrev q13:Ctx ((ag×Int)):=Zn 37 [(31,qdk),(32,pe),(85,qap)] [] [.cell 8 32, .tmp 9] qis (fun x=>(x.1.1,x.1.2.1))
theorem q12:Zk q13:=Zl (mC qf2 (mC ua (mC qky m0)))
abbrev qkp:Mdl:=(ar (Zb Zw Zv ZH Zr) [] [] 2 qis (B:=(ag×Int)) (fun b=>((b.1,b.2,()),(()))) (fun a=>pd a.1.1 a.1.2.1 a.1.2.2.1 (pe3 a.1)))
theorem qwe:Zj 28 qkp:=jf Tryz.func28 rfl q12 .z s0
abbrev qit:Mdl:=c9 Tryz.f28 37 tt false false [] [(31,qdk),(32,pe),(85,za)] [.cell 8 32, .tmp 9] (Zb Zw Zv ZH Zr) [] ⟨[Yz,Yq],[]⟩ .z
theorem que:Zj 28 qit:=Zm Tryz.func28 (mC qf2 (mC ua (mC qjg m0)))
abbrev jes:Ctx ((ag×Int)):=Zn 20 [(27,cn),(29,qn5),(28,qkp)] [] [.cell 6 32, .tmp 7] qis (fun x=>(x.1.1,x.1.2.1))
theorem jer:Zk jes:=Zl (mC ca (mC qs8 (mC qwe m0)))
abbrev qwf:Mdl:=(ar (Za Zw Zv Zr) [] [] 2 qis (B:=(ag×Int)) (fun b=>((b.1,b.2,()),(()))) (fun a=>dv a.1.1 a.1.2.1 a.1.2.2.1))
theorem q73:Zj 8 qwf:=jf Tryz.func8 rfl jer (Zo (Zo (.two (.d [0,0,0,4,0,31,63,63,255,511] [8] []) .z))) s0
abbrev qs6:Mdl:=c9 Tryz.f8 20 tt false false [] [(27,cn),(29,qn5),(28,qit)] [.cell 6 32, .tmp 7] (Za Zw Zv Zr) [] ⟨[Yz,Yq],[]⟩ (Zo (Zo (.two (.ad [0,0,0,4,0,31,63,63,255,511] [8]) .z)))
theorem q49:Zj 8 qs6:=Zm Tryz.func8 (mC ca (mC qs8 (mC que m0)))
abbrev p8:Mdl:=c9 Tryz.f78 13 tt false false [] [] XF (Zf Zw Zr) [] Y6 .z
theorem oa:Zj 78 p8:=Zm Tryz.func78 m0
abbrev qlp:Mdl:=c9 Tryz.f261 18 tt false false [] [] XL (Zf Zr Z6) [] Y3 .z
theorem qx6:Zj 261 qlp:=Zm Tryz.func261 m0
abbrev tm:Mdl:=c9 Tryz.f196 19 tt false false [] [(261,qlp)] XF (Zf Zv (.fn 261 (Ze Z6))) [] Y4 Xe
theorem qe1:Zj 196 tm:=Zm Tryz.func196 (mC qx6 m0)
abbrev pz:Mdl:=c9 Tryz.f127 9 tt false false [] [(196,tm)] XF (Zf Zv (.fn 261 (Ze Z6))) [] Y3 .z
theorem qb0:Zj 127 pz:=Zm Tryz.func127 (mC qe1 m0)
abbrev qqq:Mdl:=c9 Tryz.f219 18 tt false false [] [(127,pz)] XK (Za Zw Zv ZB) [] Y3 .z
theorem q2w:Zj 219 qqq:=Zm Tryz.func219 (mC qb0 m0)
abbrev qi6:Mdl:=c9 Tryz.f218 10 tt false false [] [(219,qqq)] XF (Za Zv ZK Z6) [] Y3 .z
theorem qu4:Zj 218 qi6:=Zm Tryz.func218 (mC q2w m0)
abbrev ta:Mdl:=c9 Tryz.f145 19 tt false false [] [(218,qi6)] XF (Zf ZA (.fn 218 (Zf ZK Z6))) [] Y4 Xe
theorem qes:Zj 145 ta:=Zm Tryz.func145 (mC qu4 m0)
abbrev pq:Mdl:=c9 Tryz.f60 9 tt false false [] [(145,ta)] XF (Zf ZA (.fn 218 (Zf ZK Z6))) [] Y3 .z
theorem qbu:Zj 60 pq:=Zm Tryz.func60 (mC qes m0)
abbrev p7:Mdl:=c9 Tryz.f155 11 tt false false [] [(60,pq)] XK (Za Zw ZA ZB) [] Y3 .z
theorem q5:Zj 155 p7:=Zm Tryz.func155 (mC qbu m0)
abbrev q6o:Mdl:=c9 Tryz.f220 20 tt false false [] [] XG (Ze Zv) [] ⟨[(0, .d true .str)],[]⟩ XE
theorem jgc:Zj 220 q6o:=Zm Tryz.func220 m0
abbrev qlo:Mdl:=c9 Tryz.f222 9 tt false false [] [] XL (Zf Zr ZJ) [] Y3 .z
theorem qx5:Zj 222 qlo:=Zm Tryz.func222 m0
abbrev td:Mdl:=c9 Tryz.f196 19 tt false false [] [(222,qlo)] XF (Zf Zv (.fn 222 (Ze ZJ))) [] Y4 Xe
theorem qeu:Zj 196 td:=Zm Tryz.func196 (mC qx5 m0)
abbrev pr:Mdl:=c9 Tryz.f127 9 tt false false [] [(196,td)] XF (Zf Zv (.fn 222 (Ze ZJ))) [] Y3 .z
theorem qbv:Zj 127 pr:=Zm Tryz.func127 (mC qeu m0)
abbrev np:Mdl:=c9 Tryz.f158 10 tt false false [] [(127,pr)] XF (Zf Z4 Zv) [] Y3 .z
theorem n9:Zj 158 np:=Zm Tryz.func158 (mC qbv m0)
abbrev qaz:Mdl:=c9 Tryz.f159 55 tt false false [] [(124,bg),(223,qy)] XI (Zf Z4 Zv) [] ⟨[Yt,Yu],[qhc]⟩ Xp
theorem qa8:Zj 159 qaz:=Zm Tryz.func159 (mC bc (mC v7 m0))
abbrev qa7:Mdl:=c9 Tryz.f156 59 tt false false [] [(220,q6o),(158,np),(159,qaz)] XF (Zf Zw ZA) [] Y3 (Zo (Zo (.two XA (.two Xj .z))))
theorem qeb:Zj 156 qa7:=Zm Tryz.func156 (mC jgc (mC n9 (mC qa8 m0)))
abbrev qqp:Mdl:=c9 Tryz.f221 7 tt false false [] [(47,bh)] XL (Zf Zv ZJ) [] Y3 .z
theorem q2v:Zj 221 qqp:=Zm Tryz.func221 (mC be m0)
abbrev tc:Mdl:=c9 Tryz.f145 19 tt false false [] [(221,qqp)] XF (Zf ZA (.fn 221 (Ze ZJ))) [] Y4 Xe
theorem qet:Zj 145 tc:=Zm Tryz.func145 (mC q2v m0)
abbrev x9:Mdl:=c9 Tryz.f157 8 tt false false [] [(145,tc)] XF (Zf ZA Zv) [] Y4 .z
theorem yu:Zj 157 x9:=Zm Tryz.func157 (mC qet m0)
abbrev qx8:Mdl:=c9 Tryz.f73 223 tt false false [] [(78,p8),(155,p7),(47,bh),(111,qch),(156,qa7),(157,x9),(158,np),(159,qaz),(147,nu)] XF (Zf Zw Z2) [] Y3 (Zo (Zo (.two (.two (.ad [0,1,3,7,15,31,31,95,255,511,1023,2047,4095,8191,16383,32767,4095,4095,135167,462847,1048575,2097151,4194303,8388607,16777215,33554431,67108863,16777215,150994943,419430399,956301311,2147483647,4294967295,8589934591,17179869183,34359738367,68719476735,137438953471,274877906943,549755813887,1099511627775,2199023255551,4398046511103,8796093022207,17592186044415,1099511627775,36283883716607,106652627894271,281474976710655,562949953421311] []) .z) (.two (Zo (Zp (Zo (Zo (.two (.one (Zo (Zo (.two (.ad [0,0,2,0,8,30,62,0,128,511,1023,2047,2047,4095,16383] []) .z)))) .z))))) (Zo (Zo (.two (Zo (Zp (Zo (Zo (.two (.one (Zo (Zo (Zo (.two (Zo (Zp (Zo (Zo (.two (.one (Zo (Zo (Zo (Zo (.ad [0,1,3,7,15,31,3,67,3,451,1023,2047,3,4099,12291,28675,3,126979,258051,524287,1048575,2097151] [])))))) .z))))) .z))))) .z))))) .z)))))))
theorem q89:Zj 73 qx8:=Zm Tryz.func73 (mC oa (mC q5 (mC be (mC qaf (mC qeb (mC yu (mC n9 (mC qa8 (mC uz m0)))))))))
abbrev qro:Mdl:=c9 Tryz.f165 48 tt false false [] [(189,qdj),(124,bg),(190,qv9)] [.tmp 6, .tmp 7, .tmp 8] (Za Zw Zv Zv) [] ⟨[(0, .d true qT1),Yq,YD],[]⟩ (Zo XE)
theorem qrp:Zj 165 qro:=Zm Tryz.func165 (mC qf1 (mC bc (mC qz7 m0)))
abbrev qec:Mdl:=c9 Tryz.f80 23 tt false false [] [(78,p8),(165,qro)] XI (Zf Zw Zv) [] ⟨[(0, .d true qT1),Yu],[]⟩ (Zo (.two (.ad [0,0,0,4,14,0,63,127,255,255,255,511,3071,8191] []) .z))
theorem qed:Zj 80 qec:=Zm Tryz.func80 (mC oa (mC qrp m0))
abbrev qoc:Mdl:=c9 Tryz.f224 35 tt false false [] [] XF (Zf Zv Zv) [] Y3 Xl
theorem qt4:Zj 224 qoc:=Zm Tryz.func224 m0
abbrev qx7:Mdl:=c9 Tryz.f160 46 tt false false [] [(80,qec),(165,qro),(224,qoc),(47,bh)] XK (Za Zw Zv Zv) [] Y3 .z
theorem q88:Zj 160 qx7:=Zm Tryz.func160 (mC qed (mC qrp (mC qt4 (mC be m0))))
abbrev zp:Mdl:=c9 Tryz.f161 14 tt false false [] [] XF (Zf Zw Zr) [] Y3 .z
theorem qfr:Zj 161 zp:=Zm Tryz.func161 m0
abbrev qi5:Mdl:=c9 Tryz.f228 7 tt false false [] [(224,qoc)] XL (Zf Zv ZJ) [] Y3 .z
theorem qu3:Zj 228 qi5:=Zm Tryz.func228 (mC qt4 m0)
abbrev te:Mdl:=c9 Tryz.f145 19 tt false false [] [(228,qi5)] XF (Zf ZA (.fn 228 (Ze ZJ))) [] Y4 Xe
theorem qev:Zj 145 te:=Zm Tryz.func145 (mC qu3 m0)
abbrev pt:Mdl:=c9 Tryz.f60 9 tt false false [] [(145,te)] XF (Zf ZA (.fn 228 (Ze ZJ))) [] Y3 .z
theorem qbw:Zj 60 pt:=Zm Tryz.func60 (mC qev m0)
abbrev qnd:Mdl:=c9 Tryz.f227 7 tt false false [] [(60,pt)] XL (Zf Zv ZR) [] Y3 .z
theorem qzn:Zj 227 qnd:=Zm Tryz.func227 (mC qbw m0)
abbrev qt1:Mdl:=c9 Tryz.f167 53 tt false false [] [(78,p8),(227,qnd),(158,np),(159,qaz)] XF (Zf Zw ZA) [] Y3 (Zo (Zo (Zo (.two Xj .z))))
theorem q6m:Zj 167 qt1:=Zm Tryz.func167 (mC oa (mC qzn (mC n9 (mC qa8 m0))))
abbrev qt2:Mdl:=c9 Tryz.f168 13 tt false false [] [(158,np)] XF (Za Zv ZK Yh) [] Y3 .z
theorem q6n:Zj 168 qt2:=Zm Tryz.func168 (mC n9 m0)
abbrev sx:Mdl:=c9 Tryz.f145 19 tt false false [] [(168,qt2)] XF (Zf ZA (.fn 168 (Zf ZK Yh))) [] Y4 Xe
theorem qek:Zj 145 sx:=Zm Tryz.func145 (mC q6n m0)
abbrev pm:Mdl:=c9 Tryz.f60 9 tt false false [] [(145,sx)] XF (Zf ZA (.fn 168 (Zf ZK Yh))) [] Y3 .z
theorem qbq:Zj 60 pm:=Zm Tryz.func60 (mC qek m0)
abbrev qob:Mdl:=c9 Tryz.f79 29 tt false false [] [(161,zp),(155,p7),(167,qt1),(60,pm)] XF (Zf Zw Z2) [] Y3 .z
theorem qt3:Zj 79 qob:=Zm Tryz.func79 (mC qfr (mC q5 (mC q6m (mC qbq m0))))
abbrev qqt:Mdl:=c9 Tryz.f74 80 tt false false [] [(160,qx7),(79,qob),(80,qec),(78,p8),(47,bh),(155,p7),(157,x9),(156,qa7)] XF (Zf Zw Z2) [] Y3 .z
theorem q2y:Zj 74 qqt:=Zm Tryz.func74 (mC q88 (mC qt3 (mC qed (mC oa (mC be (mC q5 (mC yu (mC qeb m0))))))))
abbrev qqs:Mdl:=c9 Tryz.f75 48 tt false false [] [(80,qec),(78,p8),(47,bh),(62,bp)] XF (Zf Zw Z2) [] Y3 XE
theorem q2x:Zj 75 qqs:=Zm Tryz.func75 (mC qed (mC oa (mC be (mC br m0))))
abbrev qfq:Mdl:=c9 Tryz.f162 21 tt false false [] [(158,np),(159,qaz),(157,x9)] XF (Za Zv Z5 ZR) [] Y3 .z
theorem qqr:Zj 162 qfq:=Zm Tryz.func162 (mC n9 (mC qa8 (mC yu m0)))
abbrev su:Mdl:=c9 Tryz.f145 19 tt false false [] [(162,qfq)] XF (Zf ZA (.fn 162 (Zf Z5 ZR))) [] Y4 Xe
theorem qej:Zj 145 su:=Zm Tryz.func145 (mC qqr m0)
abbrev pj:Mdl:=c9 Tryz.f60 9 tt false false [] [(145,su)] XF (Zf ZA (.fn 162 (Zf Z5 ZR))) [] Y3 .z
theorem qbp:Zj 60 pj:=Zm Tryz.func60 (mC qej m0)
abbrev qi7:Mdl:=c9 Tryz.f76 95 tt false false [] [(161,zp),(155,p7),(78,p8),(157,x9),(156,qa7),(60,pj)] XF (Zf Zw Z2) [] Y3 (Zo (.two (.two (.ad [0,0,2,7,15,31,63,63,191,511,1023,2047,4095,8191,16383,8191,8191,73727,237567,524287,1048575,2097151,4194303,8388607,16777215,33554431,67108863,134217727,268435455,536870911,536870911,1610612735,4294967295,8589934591,17179869183] []) .z) (Zo (.two (Zo (Zp (Zo (Zo (.two (.one (Zo (Zo (.ad [0,0,2,0,14,30,62,127,255] [7,8])))) .z))))) (.two (.two (.ad [0,0,3,7,15,31,31,31,159,479,1023,2047,4095] []) .z) .z)))))
theorem qu5:Zj 76 qi7:=Zm Tryz.func76 (mC qfr (mC q5 (mC oa (mC yu (mC qeb (mC qbp m0))))))
abbrev qzs:Mdl:=c9 Tryz.f164 79 tt false false [] [(163,nt),(226,qq5),(111,qch)] XK (Za Zw Zv ZA) [] Y3 (Zo (Zo (.two XA Xu)))
theorem jas:Zj 164 qzs:=Zm Tryz.func164 (mC ni (mC qq6 (mC qaf m0)))
abbrev q3m:Mdl:=c9 Tryz.f77 91 tt false false [] [(163,nt),(164,qzs),(165,qro),(166,qq4)] XK (Za Zw Zv Z2) [] Y3 (Zo (Zo (Zo (Zo (Zo (Zo (Zo (.two (.ad [0,1,3,7,7,31,63,127,255,255,767,2047,4095,255,255,16639,57599,123135,262143,524287,1048575] []) .z))))))))
theorem jc8:Zj 77 q3m:=Zm Tryz.func77 (mC ni (mC jas (mC qrp (mC qvi m0))))
abbrev qx4:Mdl:=c9 Tryz.f18 107 tt false false [] [(27,cn),(63,uv),(73,qx8),(74,qqt),(75,qqs),(76,qi7),(78,p8),(77,q3m),(79,qob),(80,qec)] XF (Zf Zw Z2) [] Y3 (Zo (Zo (Zo (.two (Zo (.one (Zo (Zo (Zo (Zo (Zo (Zo (Zo (Zo (Zo (.two (.two (.ad [0,0,0,4,14,0,63,127] []) .z) (Zo (Zo (Zo (.two (Zo (.two (.ad [0,1,3,7,15,31,63,127,255,511,255,1279,3327,7423,16383,32767,255,65791,262143,524287,1048575] []) .z)) .z)))))))))))))))) .z))))
theorem q87:Zj 18 qx4:=Zm Tryz.func18 (mC ca (mC wj (mC q89 (mC q2y (mC q2x (mC qu5 (mC oa (mC jc8 (mC qt3 (mC qed m0))))))))))
abbrev jbv:Ctx Bool:=⟨86,tt,false,true,[],gp [(14,q51),(15,qj7),(16,qso),(17,q92),(8,qs6),(18,qx4)],iw [],bx 86 tt [] [.tmp 0] Y3 (fun x=>x.1.1)⟩
abbrev qtz:Mdl:=(ar .nil [] [] 1 Y3 (B:=Bool) (fun b=>((b,()),(()))) (fun _=>qlm))
theorem q6h:Zj 4 qtz:=jf (X:=jbv) Tryz.func4 rfl (iy fits mixed (mC jft (mC qvt (mC q3l (mC jg9 (mC q49 (mC q87 m0)))))) ah) .z s0
abbrev jbx:Ctx (Bool):=Zn 19 [] [] XG qzz (fun x=>x.1.1)
theorem jbw:Zk jbx:=Zl m0
abbrev qt0:Mdl:=(ar (Ze Z4) [] [] 1 qzz (B:=Bool) (fun b=>((b,()),(()))) (fun a=>qea a.1.1))
theorem q6i:Zj 20 qt0:=jf Tryz.func20 rfl jbw .z s0
abbrev jz:Ctx (Int):=Zn 19 [(20,qt0)] [au _ 19 [] uh (C:=((List af)×Int)) (S:=Int) (fun x=>((x.1.1,x.1.2.2.1),(pe3 x.1))) jd5 (CE:=Unit) (E:=Unit) (fun c e=>((()),(()))) (fun c=>()) (fun{R} c a nx dn rt=>cq c.1 c.2 a nx dn rt)] XF ry (fun x=>x.1.1)
theorem jx:Zk jz:=Zl (mC q6i m0)
theorem u7:a8 Tryz.prog jz 0 (lc 0 Tryz.f81 37):=lp rfl jx .z s0 (fun c a=>((c.1,(()),c.2,a,()),(()))) (fun y=>((),()))
abbrev jy:Mdl:=(ar (Zf Ye (.fn 20 .nil)) [] [] 1 ry (B:=Int) (fun b=>((b,()),(()))) (fun a=>ey a.1.1))
theorem ui:Zj 81 jy:=jf Tryz.func81 rfl jx Xf (sC u7 s0)
abbrev sm:Ctx (Bool):=Zn 9 [(81,jy)] [] XF qzz (fun x=>x.1.1)
theorem sk:Zk sm:=Zl (mC ui m0)
abbrev iq:Mdl:=(ar (Zf Ye (.fn 20 .nil)) [] [] 1 qzz (B:=Bool) (fun b=>((b,()),(()))) (fun a=>cp a.1.1))
theorem qs:Zj 19 iq:=jf Tryz.func19 rfl sk .z s0
abbrev jhv:Ctx (Bool):=Zn 18 [(19,iq)] [] XG qzz (fun x=>x.1.1)
theorem jhu:Zk jhv:=Zl (mC qs m0)
abbrev q00:Mdl:=(ar (Ze Zw) [] [] 1 qzz (B:=Bool) (fun b=>((b,()),(()))) (fun a=>qjq a.1.1))
theorem jby:Zj 5 q00:=jf Tryz.func5 rfl jhu .z s0
abbrev jhc:Ctx (Bool):=Zn 17 [] [] XG qzz (fun x=>x.1.1)
theorem jhb:Zk jhc:=Zl m0
abbrev q0i:Mdl:=(ar (Ze Yg) [] [] 1 qzz (B:=Bool) (fun b=>((b,()),(()))) (fun a=>qdv a.1.1))
theorem jbh:Zj 169 q0i:=jf Tryz.func169 rfl jhb .z s0
abbrev q0h:Ctx (Bool):=Zn 52 [(169,q0i)] [au _ 52 [] jbf (C:=ByteArray) (S:=Int) (fun x=>(x.1.1,x.1.2.1)) jd5 (CE:=Unit) (E:=Unit) (fun c e=>((()),(()))) (fun c=>()) (fun{R} c a nx dn rt=>uy c a nx dn rt)] XG qzz (fun x=>x.1.1)
theorem q0f:Zk q0h:=Zl (mC jbh m0)
theorem je7:a8 Tryz.prog q0h 0 (lc 0 Tryz.f82 75):=lp rfl q0f .z s0 (fun c a=>((c,a,()),(()))) (fun y=>((),()))
abbrev q0g:Mdl:=(ar (Ze ZN) [] [] 1 qzz (B:=Bool) (fun b=>((b,()),(()))) (fun a=>qjj a.1.1))
theorem jbg:Zj 82 q0g:=jf Tryz.func82 rfl q0f XC (sC je7 s0)
abbrev q0n:Ctx (Bool):=Zn 41 [] [au _ 41 [] jbk (C:=(Int×qL1)) (S:=Int) (fun x=>((x.1.1,x.1.2.1),x.1.2.2.1)) jd5 (CE:=Unit) (E:=Unit) (fun c e=>((()),(()))) (fun c=>()) (fun{R} c a nx dn rt=>o6 c.1 c.2 a nx dn rt)] XF qzz (fun x=>x.1.1)
theorem q0l:Zk q0n:=Zl m0
theorem jfd:a8 Tryz.prog q0n 0 (lc 0 Tryz.f83 37):=lp rfl q0l (Zo (.two (.one (.two (.d [0,0,3,7,15,31,63,63,255,511,63,2047,4095,8191,16383,32767,65535,131071,131071,393215,1048575,2097151,131071,131071,12713983,29491199,67108863,134217727,268435455] [] []) .z)) .z)) s0 (fun c a=>((c.1,c.2,a,()),(()))) (fun y=>((),()))
abbrev q0m:Mdl:=(ar (Zf Zr Zv) [] [] 1 qzz (B:=Bool) (fun b=>((b,()),(()))) (fun a=>ud a.1.1 a.1.2.1))
theorem jbl:Zj 83 q0m:=jf Tryz.func83 rfl q0l Xf (sC jfd s0)
abbrev q5m:Ctx (Bool):=Zn 80 [(82,q0g),(83,q0m)] [au _ 80 [] jfb (C:=(Int×(List af)×Int×Int)) (S:=Int) (fun x=>((x.2.1.1,x.2.1.2.1,x.2.1.2.2.1,(pe3 x.2.1)),x.1.2.1)) jd5 (CE:=Unit) (E:=Unit) (fun c e=>((()),(()))) (fun c=>()) (fun{R} c a nx dn rt=>qdx c.1 c.2.1 c.2.2.1 c.2.2.2 a nx dn rt)] XG qzz (fun x=>x.1.1)
theorem q5k:Zk q5m:=Zl (mC jbg (mC jbl m0))
theorem jhd:a8 Tryz.prog q5m 0 (lc 0 Tryz.f21 75):=lp rfl q5k .z s0 (fun c a=>(((),a,()),((c.1,c.2.1,c.2.2.1,c.2.2.2,()),()))) (fun y=>((),()))
abbrev q5l:Mdl:=(ar (Ze Zw) [] [] 1 qzz (B:=Bool) (fun b=>((b,()),(()))) (fun a=>qm5 a.1.1))
theorem jfc:Zj 21 q5l:=jf Tryz.func21 rfl q5k XC (sC jhd s0)
abbrev je9:Ctx (Bool):=Zn 18 [] [au _ 18 [] jlo (C:=(qL1×Int)) (S:=Int) (fun x=>((x.1.1,x.1.2.1),x.1.2.2.1)) jd5 (CE:=Unit) (E:=Unit) (fun c e=>((()),(()))) (fun c=>()) (fun{R} c a nx dn rt=>qdw c.1 c.2 a nx dn rt)] XF qzz (fun x=>x.1.1)
theorem je8:Zk je9:=Zl m0
theorem jou:a8 Tryz.prog je9 0 (lc 0 Tryz.f24 37):=lp rfl je8 .z s0 (fun c a=>((c.1,c.2,a,()),(()))) (fun y=>((),()))
abbrev qr3:Mdl:=(ar (Zf Zv Zr) [] [] 1 qzz (B:=Bool) (fun b=>((b,()),(()))) (fun a=>vn a.1.1 a.1.2.1))
theorem qr4:Zj 24 qr3:=jf Tryz.func24 rfl je8 Xf (sC jou s0)
abbrev qjl:Ctx (qL1):=Zn 72 [(24,qr3)] [au _ 72 [] jff (C:=(Int×Int×Int×(List af)×Int×Int)) (S:=(Int×qL1)) (fun x=>((x.1.2.2.1,(pe3 x.1),x.2.1.1,x.2.1.2.1,x.2.1.2.2.1,(pe3 x.2.1)),((pe4 x.1),x.2.2.1))) jfe (CE:=(Int×Int×Int×(List af)×Int×Int)) (E:=qL1) (fun c e=>(((),(),c.1,c.2.1,()),((c.2.2.1,(pe3 c),(pe4 c),(pf5 c),()),e,()))) (fun c=>(c.1,c.2.1,c.2.2.1,(pe3 c),(pe4 c),(pf5 c))) (fun{R} c a nx dn rt=>rj c.1 c.2.1 c.2.2.1 (pe3 c) (pe4 c) (pf5 c) a.1 a.2 nx dn rt),au _ 72 [] jfe (C:=(Int×Int×(List af)×Int×Int)) (S:=(Int×qL1)) (fun x=>((x.1.2.2.1,x.2.1.1,x.2.1.2.1,x.2.1.2.2.1,(pe3 x.2.1)),((pe3 x.1),x.2.2.1))) jfg (CE:=(Int×Int×(List af)×Int×Int)) (E:=qL1) (fun c e=>(((),(),c.1,()),((c.2.1,c.2.2.1,(pe3 c),(pf4 c),()),e,()))) (fun c=>(c.1,c.2.1,c.2.2.1,(pe3 c),(pf4 c))) (fun{R} c a nx dn rt=>rk c.1 c.2.1 c.2.2.1 (pe3 c) (pf4 c) a.1 a.2 nx dn rt),au _ 72 [] jfg (C:=(Int×(List af)×Int×Int)) (S:=(Int×qL1)) (fun x=>((x.2.1.1,x.2.1.2.1,x.2.1.2.2.1,(pe3 x.2.1)),(x.1.2.2.1,x.2.2.1))) jfi (CE:=Unit) (E:=qL1) (fun c e=>(((),()),(e,()))) (fun c=>()) (fun{R} c a nx dn rt=>x0 c.1 c.2.1 c.2.2.1 c.2.2.2 a.1 a.2 nx dn rt)] XF qau (fun x=>x.2.1)
theorem qjk:Zk qjl:=Zl (mC qr4 m0)
theorem jhe:a8 Tryz.prog qjl 0 (lc 4 Tryz.f22 627275):=lp rfl qjk .z s0 (fun c a=>(((),(),c.1,c.2.1,a.1,()),((c.2.2.1,(pe3 c),(pe4 c),(pf5 c),()),a.2,()))) (fun y=>((y.1.2.2.1,(pe3 y.1),y.2.1.1,y.2.1.2.1,y.2.1.2.2.1,(pe3 y.2.1)),y.2.2.1))
theorem jhf:a8 Tryz.prog qjl 1 (lc 2 Tryz.f22 4683):=lp rfl qjk (Zo (.two (.one (.two (.two (.d [0,1,0,7,15,31,0,0,192,448,1023,2047] [] []) .z) XB)) .z)) (sC jhe s0) (fun c a=>(((),(),c.1,a.1,()),((c.2.1,c.2.2.1,(pe3 c),(pf4 c),()),a.2,()))) (fun y=>((y.1.2.2.1,y.2.1.1,y.2.1.2.1,y.2.1.2.2.1,(pe3 y.2.1)),y.2.2.1))
theorem jhg:a8 Tryz.prog qjl 2 (lc 0 Tryz.f22 75):=lp rfl qjk (Zo (.two (.one (Zo (.s 1))) .z)) (sC jhf s0) (fun c a=>(((),(),a.1,()),((c.1,c.2.1,c.2.2.1,c.2.2.2,()),a.2,()))) (fun y=>((),y.2.1))
abbrev q5t:Mdl:=(ar (Zf Zw Zr) [] [] 1 qau (B:=qL1) (fun b=>(((),()),(b,()))) (fun a=>qco a.1.1 a.1.2.1))
theorem jfk:Zj 22 q5t:=jf Tryz.func22 rfl qjk Xs (sC jhg s0)
def qto:Shp:=⟨[(0, .d true bk.ty)],[]⟩
abbrev qw7:Ctx (bk):=Zn 42 [] [au _ 42 [] q8l (C:=(Int×(List af)×Int×Int×Int×(List af)×Int×Int×Int×Int×Int)) (S:=(Int×(List af))) (fun x=>((x.2.1.1,x.2.1.2.1,x.2.1.2.2.1,(pe3 x.2.1),x.2.2.1.1,x.2.2.1.2.1,x.2.2.1.2.2.1,(pe3 x.2.2.1),(pe3 x).1,(pe3 x).2.2.1,(pe3 (pe3 x))),((pe3 x.1),(pe4 x)))) q8k (CE:=(Int×(List af)×Int×Int×Int×Int×Int)) (E:=(List af)) (fun c e=>(((),(),()),((c.1,c.2.1,c.2.2.1,(pe3 c),()),((pe4 c),(),(pe5 c),(pf6 c),()),e,()))) (fun c=>((pe4 c),(pe5 c),(pe6 c),(pe7 c),(pf8 c).1,(pf8 c).2.1,(pf8 c).2.2)) (fun{R} c a nx dn rt=>yj c.1 c.2.1 c.2.2.1 (pe3 c) (pe4 c) (pe5 c) (pe6 c) (pe7 c) (pf8 c).1 (pf8 c).2.1 (pf8 c).2.2 a.1 a.2 nx dn rt)] [.cell 2 24] qto (fun x=>x.1.1)
theorem qw5:Zk qw7:=Zl m0
theorem jbi:a8 Tryz.prog qw7 0 (lc 0 Tryz.f23 75):=lp rfl qw5 (Zo (.two (.one (Zo (.d [0,1,0,4,0,0,32,112,0,0,512,2032,4092,8188,16383,32767,65535] [7,11,12,13,14,16] []))) .z)) s0 (fun c a=>(((),(),(),a.1,()),((c.1,c.2.1,c.2.2.1,(pe3 c),()),((pe4 c),(pe5 c),(pe6 c),(pe7 c),()),((pf8 c).1,(),(pf8 c).2.1,(pf8 c).2.2,()),a.2,()))) (fun y=>((y.2.1.1,y.2.1.2.1,y.2.1.2.2.1,(pe3 y.2.1),y.2.2.1.1,y.2.2.1.2.2.1,(pe3 y.2.2.1)),(pe3 y)))
abbrev qw6:Mdl:=(ar (Ze Zw) [] [] 1 qto (B:=bk) (fun b=>((b,()),(()))) (fun a=>qgv a.1.1))
theorem q8m:Zj 23 qw6:=jf Tryz.func23 rfl qw5 XC (sC jbi s0)
abbrev jaa:Ctx (Bool):=Zn 18 [(24,qr3)] [au _ 18 [] jhi (C:=(qL1×qL1)) (S:=Int) (fun x=>((x.1.1,x.1.2.1),x.1.2.2.1)) jd5 (CE:=Unit) (E:=Unit) (fun c e=>((()),(()))) (fun c=>()) (fun{R} c a nx dn rt=>qat c.1 c.2 a nx dn rt)] XF qzz (fun x=>x.1.1)
theorem q98:Zk jaa:=Zl (mC qr4 m0)
theorem jlp:a8 Tryz.prog jaa 0 (lc 0 Tryz.f25 37):=lp rfl q98 .z s0 (fun c a=>((c.1,c.2,a,()),(()))) (fun y=>((),()))
abbrev q99:Mdl:=(ar (Zf Zv Zv) [] [] 1 qzz (B:=Bool) (fun b=>((b,()),(()))) (fun a=>qk7 a.1.1 a.1.2.1))
theorem jhj:Zj 25 q99:=jf Tryz.func25 rfl q98 Xf (sC jlp s0)
abbrev qid:Ctx (Bool):=Zn 81 [(21,q5l),(22,q5t),(23,qw6),(24,qr3),(25,q99)] [au _ 81 [] q5o (C:=(qL1×qL1×Int×(List af)×Int×Int)) (S:=Int) (fun x=>((x.1.2.1,x.1.2.2.1,x.2.1.1,x.2.1.2.1,x.2.1.2.2.1,(pe3 x.2.1)),(pe3 x.1))) q5n (CE:=(qL1×qL1×Int×(List af)×Int×Int)) (E:=Unit) (fun c e=>(((),c.1,c.2.1,()),((c.2.2.1,(pe3 c),(pe4 c),(pf5 c),()),()))) (fun c=>(c.1,c.2.1,c.2.2.1,(pe3 c),(pe4 c),(pf5 c))) (fun{R} c a nx dn rt=>ls c.1 c.2.1 c.2.2.1 (pe3 c) (pe4 c) (pf5 c) a nx dn rt),au _ 81 [] q5q (C:=(qL1×qL1×Int×(List af)×Int×Int)) (S:=Int) (fun x=>((x.1.2.1,x.1.2.2.1,x.2.1.1,x.2.1.2.1,x.2.1.2.2.1,(pe3 x.2.1)),(pe3 x.1))) jd5 (CE:=Unit) (E:=Unit) (fun c e=>((()),(()))) (fun c=>()) (fun{R} c a nx dn rt=>wn c.1 c.2.1 c.2.2.1 (pe3 c) (pe4 c) (pf5 c) a nx dn rt)] XG qzz (fun x=>x.1.1)
theorem qic:Zk qid:=Zl (mC jfc (mC jfk (mC q8m (mC qr4 (mC jhj m0)))))
theorem q8o:a8 Tryz.prog qid 1 (lc 2 Tryz.f6 607):=lp rfl qic .z s0 (fun c a=>(((),c.1,c.2.1,a,()),((c.2.2.1,(pe3 c),(pe4 c),(pf5 c),()),()))) (fun y=>((),()))
theorem q8n:a8 Tryz.prog qid 0 (lc 0 Tryz.f6 303):=lp rfl qic .z s0 (fun c a=>(((),c.1,c.2.1,a,()),((c.2.2.1,(pe3 c),(pe4 c),(pf5 c),()),()))) (fun y=>((y.1.2.1,y.1.2.2.1,y.2.1.1,y.2.1.2.1,y.2.1.2.2.1,(pe3 y.2.1)),()))
abbrev qtp:Mdl:=(ar (Ze Zw) [] [] 1 qzz (B:=Bool) (fun b=>((b,()),(()))) (fun a=>xz a.1.1))
theorem q5r:Zj 6 qtp:=jf Tryz.func6 rfl qic (Zo (Zo (Zo (.two (.d [0,1,0,4,15,31] [] []) (.two XB Xn))))) (sC q8n (sC q8o s0))
abbrev q5h:Ctx (Bool):=Zn 6 [(37,ye)] [] XG qzz (fun x=>x.1.1)
theorem q5g:Zk q5h:=Zl (mC xk m0)
abbrev qm4:Mdl:=(ar (Ze ZN) [] [] 1 qzz (B:=Bool) (fun b=>((b,()),(()))) (fun a=>qp3 a.1.1))
theorem qzg:Zj 185 qm4:=jf Tryz.func185 rfl q5g .z s0
abbrev m9:Ctx (Int):=Zn 19 [(185,qm4)] [au _ 19 [] yn (C:=((List ByteArray)×Int)) (S:=Int) (fun x=>((x.1.1,x.1.2.2.1),(pe3 x.1))) jd5 (CE:=Unit) (E:=Unit) (fun c e=>((()),(()))) (fun c=>()) (fun{R} c a nx dn rt=>lx c.1 c.2 a nx dn rt)] XF ry (fun x=>x.1.1)
theorem m7:Zk m9:=Zl (mC qzg m0)
theorem zh:a8 Tryz.prog m9 0 (lc 0 Tryz.f97 37):=lp rfl m7 .z s0 (fun c a=>((c.1,(()),c.2,a,()),(()))) (fun y=>((),()))
abbrev m8:Mdl:=(ar (Zf ZD (.fn 185 .nil)) [] [] 1 ry (B:=Int) (fun b=>((b,()),(()))) (fun a=>nv a.1.1))
theorem yo:Zj 97 m8:=jf Tryz.func97 rfl m7 Xf (sC zh s0)
abbrev x4:Ctx (Bool):=Zn 9 [(97,m8)] [] XF qzz (fun x=>x.1.1)
theorem x3:Zk x4:=Zl (mC yo m0)
abbrev ky:Mdl:=(ar (Zf ZD (.fn 185 .nil)) [] [] 1 qzz (B:=Bool) (fun b=>((b,()),(()))) (fun a=>lu a.1.1))
theorem vy:Zj 35 ky:=jf Tryz.func35 rfl x3 .z s0
abbrev jbb:Ctx (Bool):=Zn 11 [(35,ky)] [] XG qzz (fun x=>x.1.1)
theorem jba:Zk jbb:=Zl (mC vy m0)
abbrev qa6:Mdl:=(ar (Ze ZD) [] [] 1 qzz (B:=Bool) (fun b=>((b,()),(()))) (fun a=>xy a.1.1))
theorem qdt:Zj 104 qa6:=jf Tryz.func104 rfl jba .z s0
def qth:Shp:=⟨[(0, .d true qT1),qu6],[]⟩
abbrev je0:Ctx ((qL1×Int)):=Zn 23 [(7,rb),(104,qa6)] [] XI qth (fun x=>(x.1.1,x.1.2.1))
theorem jez:Zk je0:=Zl (mC rf (mC qdt m0))
abbrev qdo:Mdl:=(ar (Zf Zw ZD) [] [] 2 qth (B:=(qL1×Int)) (fun b=>((b.1,b.2,()),(()))) (fun a=>vk a.1.1 a.1.2.1))
theorem qf4:Zj 43 qdo:=jf Tryz.func43 rfl jez .z s0
abbrev quq:Ctx (Bool):=Zn 9 [] [] XG qzz (fun x=>x.1.1)
theorem qup:Zk quq:=Zl m0
abbrev qfh:Mdl:=(ar (Ze Zr) [] [] 1 qzz (B:=Bool) (fun b=>((b,()),(()))) (fun a=>pf a.1.1))
theorem qpw:Zj 186 qfh:=jf Tryz.func186 rfl qup .z s0
abbrev qzf:Ctx (Bool):=Zn 20 [(186,qfh)] [] XG qzz (fun x=>x.1.1)
theorem qze:Zk qzf:=Zl (mC qpw m0)
abbrev zf:Mdl:=(ar (Ze ZV) [] [] 1 qzz (B:=Bool) (fun b=>((b,()),(()))) (fun a=>uc a.1.1))
theorem qfi:Zj 105 zf:=jf Tryz.func105 rfl qze .z s0
abbrev jjj:Ctx (Bool):=Zn 21 [(43,qdo),(105,zf)] [] XK qzz (fun x=>x.1.1)
theorem jji:Zk jjj:=Zl (mC qf4 (mC qfi m0))
abbrev q29:Mdl:=(ar (Za Zw ZD ZV) [] [] 1 qzz (B:=Bool) (fun b=>((b,()),(()))) (fun a=>qmf a.1.1 a.1.2.1 a.1.2.2.1))
theorem jcw:Zj 87 q29:=jf Tryz.func87 rfl jji .z s0
abbrev jlk:Ctx ((Int×qL1)):=Zn 25 [(101,qdg),(104,qa6)] [] XI q91 (fun x=>(x.1.2.1,x.2.1))
theorem jlj:Zk jlk:=Zl (mC qdh (mC qdt m0))
abbrev qr1:Mdl:=(ar (Zf Zw ZD) [] [] 2 q91 (B:=(Int×qL1)) (fun b=>(((),b.1,()),(b.2,()))) (fun a=>qhh a.1.1 a.1.2.1))
theorem qwt:Zj 44 qr1:=jf Tryz.func44 rfl jlj .z s0
abbrev q05:Mdl:=(ar (Ze Zv) [] [] 1 jnb (B:=ByteArray) (fun b=>((b,()),(()))) (fun a=>qft a.1.1))
theorem q24:Zj 174 q05:=j2m _
def qik:Shp:=⟨[qy2,zei],[.cs 84 14 1 (Zc Zu Zx Zu Zu ZM Zu Zu Zu ZL Z0 Z8 Ya (.own 6) (.mp 1)),jpr,qvu,qhc,qhc,qmc,qqo]⟩
abbrev q08:Ctx ((Int×Bool×Int×(List af)×Int×Int×(List ByteArray)×Int×Int×Int×(List (ByteArray×Int))×qL2×qL1×qL1×(List aq)×(List Bool))):=⟨120,tt,false,false,[true,true],gp [(174,q05)],iw [],bx 120 tt [true,true] [.tmp 10, .tmp 11] qik (fun x=>(x.1.1,x.1.2.1,x.2.1.1,x.2.1.2.1,x.2.1.2.2.1,(pe3 x.2.1),(pe4 x.2.1),(pe5 x.2.1),(pe6 x.2.1),(pe7 x.2.1),x.2.2.1,(pe3 x),(pe4 x),(pe5 x),(pe6 x),(pe7 x)))⟩
theorem q07:Zk q08:=Zl (mC q24 m0)
abbrev qj2:Mdl:=(ar (Zh ZP ZE Zr Zr Z3) [.cs 84 14 1 (Zc Zr Zx Zr Zr ZM Zr Zr Zr (.e) (.e) (.e) (.e) (.e) (.mp 1)),jpr] [true,true] 2 qik (B:=(Int×Bool×Int×(List af)×Int×Int×(List ByteArray)×Int×Int×Int×(List (ByteArray×Int))×qL2×qL1×qL1×(List aq)×(List Bool))) (fun b=>((b.1,b.2.1,()),((b.2.2.1,(pe3 b),(pe4 b),(pe5 b),(pe6 b),(pe7 b),(pf8 b).1,(pf8 b).2.1,(),(),(),(),(),(),()),(pf8 b).2.2.1,(pe3 (pf8 b)),(pe4 (pf8 b)),(pe5 (pf8 b)),(pe6 (pf8 b)),(pf7 (pf8 b)),()))) (fun a=>wa a.1.2.1 a.1.2.2.1 (pe3 a.1) (pe4 a.1) a.2.1.1 a.2.1.2.1 a.2.1.2.2.1 (pe3 a.2.1) (pe4 a.2.1) (pe5 a.2.1) (pe6 a.2.1) (pe7 a.2.1) a.2.2.1))
theorem qva:Zj 88 qj2:=jf Tryz.func88 rfl q07 (Zo (.two (.d [0,1,3,7,0,16,63,127,255,255,511,2047] [] []) (.two Xg .z))) s0
abbrev q6y:Ctx (Int):=Zn 5 [] [] XG ry (fun x=>x.1.1)
theorem q6x:Zk q6y:=Zl m0
abbrev ya:Mdl:=(ar (Ze (.d false (.slice ab.ty))) [] [] 1 ry (B:=Int) (fun b=>((b,()),(()))) (fun a=>ea a.1.1))
theorem qa9:Zj 89 ya:=jf Tryz.func89 rfl q6x .z s0
def qjz:Shp:=⟨[],[qqu]⟩
abbrev q28:Ctx ((List ab)):=⟨20,tt,false,false,[true],gp [],iw [],bx 20 tt [true] [] qjz (fun x=>x.2.1)⟩
theorem q27:Zk q28:=Zl m0
abbrev v8:Mdl:=(ar (Za ZO Zr Zr) [qqu] [true] 0 qjz (B:=(List ab)) (fun b=>((()),(b,()))) (fun a=>fj a.1.2.1 a.1.2.2.1 a.2.1))
theorem zb:Zj 328 v8:=jf Tryz.func328 rfl q27 (.d [0,0,0,0,0,0,48,112,0,0,768,1792,4083,8179,16383,32767] [13,15] []) s0
abbrev q26:Ctx (Bool):=Zn 18 [] [] XK qzz (fun x=>x.1.1)
theorem q25:Zk q26:=Zl m0
abbrev qc0:Mdl:=(ar (Za (.d false (.slice ab.ty)) Zr Zr) [] [] 1 qzz (B:=Bool) (fun b=>((b,()),(()))) (fun a=>gq a.1.1 a.1.2.1 a.1.2.2.1))
theorem qii:Zj 325 qc0:=jf Tryz.func325 rfl q25 (Zo (.two (.d [0,0,3,7,15,0,0,96,224,480,1023,2047] [] []) .z)) s0
def qip:Shp:=⟨[qo4],[qy8,qqu]⟩
abbrev qkh:Ctx ((Bool×(List ab))):=⟨48,tt,false,false,[true,true],gp [(325,qc0),(328,v8)],iw [au _ 48 [true,true] qvw (C:=(Int×Int)) (S:=(Int×(List ab))) (fun x=>((x.1.2.1,x.1.2.2.1),((pe3 x.1),x.2.2.1))) qvv (CE:=Int) (E:=(Int×(List ab))) (fun c e=>((c,e.1,()),(((),()),e.2,()))) (fun c=>c.1) (fun{R} c a nx dn rt=>cf c.1 c.2 a.1 a.2 nx dn rt)],bx 48 tt [true,true] XK qip (fun x=>(x.1.1,x.2.2.1))⟩
theorem qkf:Zk qkh:=Zl (mC qii (mC zb m0))
theorem qza:a8 Tryz.prog qkh 0 (lc 0 Tryz.f175 35):=lp rfl qkf .z s0 (fun c a=>((((),()),c.1,c.2,a.1,()),(((),()),a.2,()))) (fun y=>(y.1.1,(y.1.2.1,y.2.2.1)))
abbrev qkg:Mdl:=(ar (Za Yl Zr Zr) [qy8,qqu] [true,true] 1 qip (B:=(Bool×(List ab))) (fun b=>((b.1,()),(((),()),b.2,()))) (fun a=>wi a.1.2.1 a.1.2.2.1 a.2.2.1))
theorem qvx:Zj 175 qkg:=jf Tryz.func175 rfl qkf (Zo (Zo (.two (.s 0) .z))) (sC qza s0)
def qme:Shp:=⟨[jgf],[qy8,qqu]⟩
abbrev q60:Ctx ((Int×Int×(List ab))):=⟨23,tt,false,false,[true,false],gp [],iw [],bx 23 tt [true,false] XG qme (fun x=>(x.1.1.1.1,x.1.1.1.2.1,x.2.2.1))⟩
theorem q6z:Zk q60:=Zl m0
abbrev qoj:Mdl:=(ar (Ze ZP) [qy8,qqu] [true,false] 1 qme (B:=(Int×Int×(List ab))) (fun b=>((((b.1,b.2.1,()),()),()),(((),()),b.2.2,()))) (fun a=>qh2 a.2.2.1))
theorem q06:Zj 326 qoj:=jf Tryz.func326 rfl q6z .z s0
abbrev q33:Ctx ((Int×Int×(List ab))):=⟨15,tt,false,false,[true,false],gp [(89,ya),(328,v8),(175,qkg),(326,qoj)],iw [],bx 15 tt [true,false] XG qme (fun x=>(x.1.1.1.1,x.1.1.1.2.1,x.2.2.1))⟩
theorem q32:Zk q33:=Zl (mC qa9 (mC zb (mC qvx (mC q06 m0))))
abbrev qmm:Mdl:=(ar (Ze Yl) [qy8,qqu] [true,false] 1 qme (B:=(Int×Int×(List ab))) (fun b=>((((b.1,b.2.1,()),()),()),(((),()),b.2.2,()))) (fun a=>yd a.2.2.1))
theorem qy9:Zj 90 qmm:=jf Tryz.func90 rfl q32 .z s0
abbrev q8h:Ctx (Bool):=Zn 40 [(104,qa6),(163,nt)] [] XK qzz (fun x=>x.1.1)
theorem q8g:Zk q8h:=Zl (mC qdt (mC ni m0))
abbrev qf5:Mdl:=(ar (Za Zw ZD Zv) [] [] 1 qzz (B:=Bool) (fun b=>((b,()),(()))) (fun a=>uw a.1.1 a.1.2.1 a.1.2.2.1))
theorem qk4:Zj 176 qf5:=jf Tryz.func176 rfl q8g (Zo (Zo (.two (.d [0,0,2,7,15,31,31,63,255] [] []) .z))) s0
abbrev joq:Ctx (Bool):=Zn 19 [] [] XK qzz (fun x=>x.1.1)
theorem jop:Zk joq:=Zl m0
abbrev qwv:Mdl:=(ar (Za ZD Zr ZN) [] [] 1 qzz (B:=Bool) (fun b=>((b,()),(()))) (fun a=>qk3 a.1.1 a.1.2.1 a.1.2.2.1))
theorem q0c:Zj 110 qwv:=jf Tryz.func110 rfl jop .z s0
def qp:Shp:=⟨[q9s],[qmc]⟩
abbrev qgb:Ctx ((List aq)):=Zn 27 [] [] XF qp (fun x=>x.2.1)
theorem qga:Zk qgb:=Zl m0
abbrev rn:Mdl:=(ar (Zf (.e) Zr) [] [] 1 qp (B:=(List aq)) (fun b=>(((),()),(b,()))) (fun a=>fx a.1.2.1))
theorem qd6:Zj 233 rn:=jf Tryz.func233 rfl qga .z s0
abbrev jd:Ctx ((List aq)):=Zn 36 [(233,rn)] [au _ 36 [] qbk (C:=((List (List aq))×(List (List aq))×Int)) (S:=(Int×Int)) (fun x=>((x.1.1,x.1.2.2.1,(pe3 x.1)),(x.1.2.1,(pe4 x.1)))) qbj (CE:=(List (List aq))) (E:=Int) (fun c e=>((c,e,()),(()))) (fun c=>c.1) (fun{R} c a nx dn rt=>gm c.1 c.2.1 c.2.2 a.1 a.2 nx dn rt),au _ 36 [] qbm (C:=((List (List aq))×Int)) (S:=(Int×(List aq))) (fun x=>((x.1.2.1,x.1.2.2.1),((pe3 x.1),x.2.1))) qbl (CE:=Unit) (E:=(List aq)) (fun c e=>(((),()),(e,()))) (fun c=>()) (fun{R} c a nx dn rt=>gn c.1 c.2 a.1 a.2 nx dn rt)] XG qp (fun x=>x.2.1)
theorem ja:Zk jd:=Zl (mC qd6 m0)
theorem qcy:a8 Tryz.prog jd 1 (lc 2 Tryz.f177 303):=lp rfl ja .z s0 (fun c a=>(((),c.1,c.2,a.1,()),(a.2,()))) (fun y=>((),y.2.1))
theorem qcx:a8 Tryz.prog jd 0 (lc 0 Tryz.f177 75):=lp rfl ja .z s0 (fun c a=>((c.1,a.1,c.2.1,c.2.2,a.2,()),(()))) (fun y=>(y.1.1,y.1.2.1))
abbrev ph:Mdl:=(ar (Ze (.d false (.slice (.slice aq.ty)))) [] [] 1 qp (B:=(List aq)) (fun b=>(((),()),(b,()))) (fun a=>fa a.1.1))
theorem qbn:Zj 177 ph:=jf Tryz.func177 rfl ja (Zo (Zo (.two XB (Zo Xn)))) (sC qcx (sC qcy s0))
def qtg:Shp:=⟨[q9s,qu6],[qmc]⟩
abbrev qk1:Ctx ((Int×(List aq))):=Zn 89 [(176,qf5),(111,qch),(110,qwv),(177,ph)] [au _ 89 [] q8c (C:=((List ByteArray)×qL1×(List aq)×(List af)×Int×Int×(List af)×Int×Int)) (S:=(Int×(List aq)×(List aq))) (fun x=>((x.1.1,x.1.2.1,(pe4 x.1),(pe6 x.1),(pe7 x.1),x.2.1.1,x.2.1.2.1,x.2.1.2.2.1,(pe3 x.2.1)),((pf8 x.1).1,x.2.2.1,(pe3 x)))) q8b (CE:=(List aq)) (E:=((List aq)×(List aq))) (fun c e=>(((),c,(),()),(e.1,e.2,()))) (fun c=>c.2.2.1) (fun{R} c a nx dn rt=>nj c.1 c.2.1 c.2.2.1 (pe3 c) (pe4 c) (pe5 c) (pe6 c) (pe7 c) (pf8 c) a.1 a.2.1 a.2.2 nx dn rt),qkk _ 89 [] q8e (A:=((List ByteArray)×qL1×(List aq)×Int×(List af)×Int×Int×(List aq)×(List aq))) (fun x=>(x.1.1,x.1.2.1,(pe4 x.1),x.2.1.1,x.2.1.2.1,x.2.1.2.2.1,(pe3 x.2.1),x.2.2.1,(pe3 x))) jd5 (CE:=Unit) (E:=Unit) (fun c e=>((()),(()))) (fun c=>()) (fun{R} c dn rt=>qf3 c.1 c.2.1 c.2.2.1 (pe3 c) (pe4 c) (pe5 c) (pe6 c) (pe7 c) (pf8 c) dn rt)] XJ qtg (fun x=>(x.1.2.1,x.2.1))
theorem qk0:Zk qk1:=Zl (mC qk4 (mC qaf (mC q0c (mC qbn m0))))
theorem ja5:a8 Tryz.prog qk1 0 (lc 0 Tryz.f91 303):=lp rfl qk0 (Zo (Zo (.two (.one (Zo (.two (.two (.d [0,0,2,0,15,31,63,63,127,511] [] []) .z) (Zo (.two (.two (.d [0,0,2,6,0,16,63] [] []) .z) .z))))) .z))) s0 (fun c a=>((c.1,c.2.1,(),(),c.2.2.1,(),(pe3 c),(pe4 c),a.1,()),(((pe5 c),(pe6 c),(pe7 c),(pf8 c),()),a.2.1,a.2.2,()))) (fun y=>(y.1.2.1,(y.2.1,y.2.2.1)))
theorem ja6:a8 Tryz.prog qk1 1 (jc Tryz.f91 31):=jn rfl qk0 (.two XB .z) (sC ja5 s0) (fun c=>((c.1,c.2.1,(),(),c.2.2.1,(),()),(((pe3 c),(pe4 c),(pe5 c),(pe6 c),()),(pe7 c),(pf8 c),()))) (fun y=>((),()))
abbrev qwu:Mdl:=(ar (Za Zw ZD Zv) [] [] 2 qtg (B:=(Int×(List aq))) (fun b=>(((),b.1,()),(b.2,()))) (fun a=>qas a.1.1 a.1.2.1 a.1.2.2.1))
theorem q8f:Zj 91 qwu:=jf Tryz.func91 rfl qk0 (Zo (Zo (Zo (Zo (.s 1))))) (sC ja6 s0)
abbrev jg8:Ctx (Bool):=Zn 9 [] [] XG qzz (fun x=>x.1.1)
theorem jg7:Zk jg8:=Zl m0
abbrev qn7:Mdl:=(ar (Ze Zr) [] [] 1 qzz (B:=Bool) (fun b=>((b,()),(()))) (fun a=>qji a.1.1))
theorem qtk:Zj 178 qn7:=jf Tryz.func178 rfl jg7 .z s0
abbrev je2:Ctx ((Int×qL1)):=Zn 100 [(37,ye),(110,qwv),(111,qch)] [] XM q91 (fun x=>(x.1.2.1,x.2.1))
theorem je1:Zk je2:=Zl (mC xk (mC q0c (mC qaf m0)))
abbrev qk2:Mdl:=(ar (Zb Zw ZD Zv Z3) [] [] 2 q91 (B:=(Int×qL1)) (fun b=>(((),b.1,()),(b.2,()))) (fun a=>vm a.1.1 a.1.2.1 a.1.2.2.1 (pe3 a.1)))
theorem qpx:Zj 46 qk2:=jf Tryz.func46 rfl je1 (Zo (.two (.d [0,1,3,0,8,7,63] [] []) .z)) s0
abbrev jey:Ctx ((qL1×Int)):=Zn 28 [(176,qf5),(178,qn7),(46,qk2)] [] XM qth (fun x=>(x.1.1,x.1.2.1))
theorem jex:Zk jey:=Zl (mC qk4 (mC qtk (mC qpx m0)))
abbrev qwo:Mdl:=(ar (Zb Zw ZD Zv Z3) [] [] 2 qth (B:=(qL1×Int)) (fun b=>((b.1,b.2,()),(()))) (fun a=>qaq a.1.1 a.1.2.1 a.1.2.2.1 (pe3 a.1)))
theorem q77:Zj 92 qwo:=jf Tryz.func92 rfl jex .z s0
abbrev ja8:Ctx (Bool):=Zn 7 [(178,qn7)] [] XG qzz (fun x=>x.1.1)
theorem ja7:Zk ja8:=Zl (mC qtk m0)
abbrev qtj:Mdl:=(ar (Ze Z3) [] [] 1 qzz (B:=Bool) (fun b=>((b,()),(()))) (fun a=>qdq a.1.1))
theorem q5f:Zj 188 qtj:=jf Tryz.func188 rfl ja7 .z s0
abbrev kl:Ctx (Int):=Zn 19 [(188,qtj)] [au _ 19 [] u5 (C:=((List aq)×Int)) (S:=Int) (fun x=>((x.1.1,x.1.2.2.1),(pe3 x.1))) jd5 (CE:=Unit) (E:=Unit) (fun c e=>((()),(()))) (fun c=>()) (fun{R} c a nx dn rt=>cu c.1 c.2 a nx dn rt)] XF ry (fun x=>x.1.1)
theorem kh:Zk kl:=Zl (mC q5f m0)
theorem vz:a8 Tryz.prog kl 0 (lc 0 Tryz.f235 37):=lp rfl kh .z s0 (fun c a=>((c.1,(()),c.2,a,()),(()))) (fun y=>((),()))
abbrev kj:Mdl:=(ar (Zf ZW (.fn 188 .nil)) [] [] 1 ry (B:=Int) (fun b=>((b,()),(()))) (fun a=>fh a.1.1))
theorem u6:Zj 235 kj:=jf Tryz.func235 rfl kh Xf (sC vz s0)
abbrev uf:Ctx (Bool):=Zn 9 [(235,kj)] [] XF qzz (fun x=>x.1.1)
theorem ue:Zk uf:=Zl (mC u6 m0)
abbrev je:Mdl:=(ar (Zf ZW (.fn 188 .nil)) [] [] 1 qzz (B:=Bool) (fun b=>((b,()),(()))) (fun a=>eb a.1.1))
theorem rm:Zj 187 je:=jf Tryz.func187 rfl ue .z s0
abbrev jg6:Ctx (Bool):=Zn 11 [(187,je)] [] XG qzz (fun x=>x.1.1)
theorem jg5:Zk jg6:=Zl (mC rm m0)
abbrev q0d:Mdl:=(ar (Ze ZW) [] [] 1 qzz (B:=Bool) (fun b=>((b,()),(()))) (fun a=>qjh a.1.1))
theorem ja9:Zj 106 q0d:=jf Tryz.func106 rfl jg5 .z s0
abbrev je4:Ctx (Int):=Zn 19 [] [] XF ry (fun x=>x.1.1)
theorem je3:Zk je4:=Zl m0
abbrev qwy:Mdl:=(ar (Zf ZV Z3) [] [] 1 ry (B:=Int) (fun b=>((b,()),(()))) (fun a=>qgu a.1.1 a.1.2.1))
theorem q8i:Zj 109 qwy:=jf Tryz.func109 rfl je3 .z s0
abbrev ja4:Ctx (Int):=Zn 11 [(109,qwy)] [] [.tmp 5] ry (fun x=>x.1.1)
theorem ja3:Zk ja4:=Zl (mC q8i m0)
abbrev qtd:Mdl:=(ar (Za Zr Z3 Yj) [] [] 1 ry (B:=Int) (fun b=>((b,()),(()))) (fun a=>qkz a.1.1 a.1.2.1 a.1.2.2.1))
theorem q5d:Zj 108 qtd:=jf Tryz.func108 rfl ja3 .z s0
abbrev qfl:Ctx (Int):=Zn 21 [(108,qtd)] [au _ 21 [] qp0 (C:=(ak×(List aq)×Int)) (S:=(Int×Int)) (fun x=>((x.1.2.1.1,x.1.2.2.1,(pe3 x.1)),(x.1.1,(pe4 x.1)))) qpz (CE:=Unit) (E:=Int) (fun c e=>((e,()),(()))) (fun c=>()) (fun{R} c a nx dn rt=>lq c.1 c.2.1 c.2.2 a.1 a.2 nx dn rt)] XK ry (fun x=>x.1.1)
theorem qfj:Zk qfl:=Zl (mC q5d m0)
theorem qr2:a8 Tryz.prog qfl 0 (lc 0 Tryz.f107 37):=lp rfl qfj .z s0 (fun c a=>((a.1,(c.1,()),c.2.1,c.2.2,a.2,()),(()))) (fun y=>((),y.1.1))
abbrev qfk:Mdl:=(ar (Za ZW Zr (.fn 108 (Ze Yj))) [] [] 1 ry (B:=Int) (fun b=>((b,()),(()))) (fun a=>xx a.1.1 a.1.2.1 a.1.2.2.1.1))
theorem qp1:Zj 107 qfk:=jf Tryz.func107 rfl qfj Xf (sC qr2 s0)
def qws:Shp:=⟨[qy2,qu6],[]⟩
abbrev jg4:Ctx ((Int×Int)):=Zn 17 [(105,zf),(106,q0d),(107,qfk)] [] XI qws (fun x=>(x.1.1,x.1.2.1))
theorem jg3:Zk jg4:=Zl (mC qfi (mC ja9 (mC qp1 m0)))
abbrev qn6:Mdl:=(ar (Zf ZV ZW) [] [] 2 qws (B:=(Int×Int)) (fun b=>((b.1,b.2,()),(()))) (fun a=>yi a.1.1 a.1.2.1))
theorem qte:Zj 45 qn6:=jf Tryz.func45 rfl jg3 .z s0
def qgz:Shp:=⟨[qy2,zei],[qjc,qvu,qhc,qhc,qmc,qqo,jpr]⟩
abbrev qy4:Ctx ((Int×Bool×Int×(List af)×Int×Int×(List ByteArray)×Int×Int×Int×qL2×qL1×qL1×(List aq)×(List Bool)×(List (ByteArray×Int)))):=⟨120,tt,false,false,[true,false,false,false,false,false,true],gp [(174,q05)],iw [],bx 120 tt [true,false,false,false,false,false,true] [.tmp 10, .tmp 11] qgz (fun x=>(x.1.1,x.1.2.1,x.2.1.1,x.2.1.2.1,x.2.1.2.2.1,(pe3 x.2.1),(pe4 x.2.1),(pe5 x.2.1),(pe6 x.2.1),(pe7 x.2.1),x.2.2.1,(pe3 x),(pe4 x),(pe5 x),(pe6 x),(pe7 x)))⟩
theorem qy3:Zk qy4:=Zl (mC q24 m0)
abbrev qij:Mdl:=(ar (Zh ZP ZE Zr Zr Z3) [.cs 84 14 1 (Zc Zr Zx Zr Zr ZM Zr Zr Zr ZG ZL Z0 Z8 Ya (.mp 6)),qvu,qhc,qhc,qmc,qqo,jpr] [true,false,false,false,false,false,true] 2 qgz (B:=(Int×Bool×Int×(List af)×Int×Int×(List ByteArray)×Int×Int×Int×qL2×qL1×qL1×(List aq)×(List Bool)×(List (ByteArray×Int)))) (fun b=>((b.1,b.2.1,()),((b.2.2.1,(pe3 b),(pe4 b),(pe5 b),(pe6 b),(pe7 b),(pf8 b).1,(pf8 b).2.1,(),(),(),(),(),(),()),(pf8 b).2.2.1,(pe3 (pf8 b)),(pe4 (pf8 b)),(pe5 (pf8 b)),(pe6 (pf8 b)),(pf7 (pf8 b)),()))) (fun a=>j6 a.1.2.1 a.1.2.2.1 (pe3 a.1) (pe4 a.1) a.2.1.1 a.2.1.2.1 a.2.1.2.2.1 (pe3 a.2.1) (pe4 a.2.1) (pe5 a.2.1) (pe6 a.2.1) (pe7 a.2.1) a.2.2.1 (pe3 a) (pe4 a) (pe5 a) (pe6 a) (pe7 a)))
theorem qt7:Zj 88 qij:=jf Tryz.func88 rfl qy3 (Zo (.two (.d [0,1,3,7,0,16,63,127,255,255,511,2047] [] []) (.two Xg (Zo (.two (.d [0,1,3,7,0,0,32,96,224,0,0,1024,3072,7168,0,0,0,0,48639,310783,901119,1949695,4194303,8388607] [19,21,23] []) .z))))) s0
abbrev qlt:Ctx ((List ab)):=⟨13,tt,false,false,[true,false],gp [],iw [],bx 13 tt [true,false] [] q1k (fun x=>x.2.2.1)⟩
theorem qls:Zk qlt:=Zl m0
abbrev yv:Mdl:=(ar (Zf ZP Yn) [qy8,qqu] [true,false] 0 q1k (B:=(List ab)) (fun b=>((()),(((),()),b,()))) (fun a=>p9 a.1.2.1.1.1 a.1.2.1.1.2.1 a.2.2.1))
theorem qi9:Zj 327 yv:=jf Tryz.func327 rfl qls (.d [0,0,2,6,0,16,48,126,255,511] [7,9] []) s0
abbrev qoz:Ctx ((List ab)):=⟨23,tt,false,false,[true,true],gp [(325,qc0),(328,v8)],iw [au _ 23 [true,true] q1l (C:=Unit) (S:=(Int×(List ab))) (fun x=>((),(x.1.2.1,x.2.2.1))) q1k (CE:=Unit) (E:=(List ab)) (fun c e=>((()),(((),()),e,()))) (fun c=>()) (fun{R} c a nx dn rt=>nr a.1 a.2 nx dn rt)],bx 23 tt [true,true] [] q1k (fun x=>x.2.2.1)⟩
theorem qox:Zk qoz:=Zl (mC qii (mC zb m0))
theorem q34:a8 Tryz.prog qoz 0 (lc 0 Tryz.f179 4):=lp rfl qox .z s0 (fun c a=>((((),()),a.1,()),(((),()),a.2,()))) (fun y=>((),y.2.2.1))
abbrev qoy:Mdl:=(ar (Zf Yl Zr) [qy8,qqu] [true,true] 0 q1k (B:=(List ab)) (fun b=>((()),(((),()),b,()))) (fun a=>qa2 a.1.2.1 a.2.2.1))
theorem q1m:Zj 179 qoy:=jf Tryz.func179 rfl qox (.s 0) (sC q34 s0)
abbrev qke:Ctx ((List ab)):=⟨12,tt,false,false,[true,false],gp [(327,yv),(89,ya),(179,qoy)],iw [],bx 12 tt [true,false] [] q1k (fun x=>x.2.2.1)⟩
theorem qkd:Zk qke:=Zl (mC qi9 (mC qa9 (mC q1m m0)))
abbrev xg:Mdl:=(ar (Zf Yl Yn) [qy8,qqu] [true,false] 0 q1k (B:=(List ab)) (fun b=>((()),(((),()),b,()))) (fun a=>d6 a.1.2.1.1.1 a.1.2.1.1.2.1 a.2.2.1))
theorem qh5:Zj 93 xg:=jf Tryz.func93 rfl qkd .z s0
def q9c:Shp:=⟨[Ys,qu6,jpt],[qjc,qvu,qhc,qhc,qmc,qqo,jpr]⟩
def q3a:Shp:=⟨[qu6,jpt],[]⟩
abbrev qj1:Ctx (((Int×Int×Int×(List af)×Int×Int×(List ByteArray)×Int×Int×Int×qL2×qL1×qL1×(List aq)×(List Bool)×(List (ByteArray×Int)))⊕(Int×Int))):=⟨203,tt,false,false,[],gp [(87,q29),(43,qdo),(44,qr1),(88,qj2),(88,qij),(89,ya),(90,qmm),(47,bh),(91,qwu),(92,qwo),(45,qn6),(93,xg)],iw [au _ 203 [] jjl (C:=((List ByteArray)×Int×qL1×Int×Int×(List aq)×Int×Int×(List af)×Int×Int×Int×Int×Int×Int×Int)) (S:=(Int×Int×(List af)×Int×Int×(List ByteArray)×Int×Int×Int×qL2×qL1×qL1×(List aq)×(List Bool)×(List (ByteArray×Int))×(List ab))) (fun x=>((x.1.1,x.1.2.1,(pe4 x.1),(pe7 x.1),(pf8 x.1).1,(pf8 x.1).2.2.1,(pe3 (pf8 x.1)),x.2.1.1,x.2.1.2.1,x.2.1.2.2.1,(pe3 x.2.1),x.2.2.1.1,x.2.2.1.2.1,x.2.2.1.2.2.1,(pe5 x).1,(pe5 x).2.1),((pe4 (pf8 x.1)),(pe3 x).1,(pe3 x).2.1,(pe3 x).2.2.1,(pe3 (pe3 x)),(pe4 (pe3 x)),(pe5 (pe3 x)),(pe6 (pe3 x)),(pe7 (pe3 x)),(pe6 x),(pe7 x),(pf8 x).1,(pf8 x).2.1,(pf8 x).2.2.1,(pe3 (pf8 x)),(pe4 (pf8 x))))) jjk (CE:=((List ByteArray)×Int×qL1×Int×Int×Int×(List af)×Int×Int×Int×Int×Int)) (E:=(Int×(List af)×Int×Int×(List ByteArray)×Int×Int×Int×qL2×qL1×qL1×(List aq)×(List Bool)×(List (ByteArray×Int))×(List ab))) (fun c e=>((c.1,c.2.1,(),(),c.2.2.1,(),(),(pe3 c),(pe4 c),()),(((pe5 c),(pe6 c),(pe7 c),(pf8 c).1,()),((pf8 c).2.1,(pf8 c).2.2.1,(pf8 c).2.2.2,()),(e.1,e.2.1,e.2.2.1,(pe3 e),(pe4 e),(pe5 e),(pe6 e),(pe7 e),(),(),(),(),(),(),()),((),()),(pf8 e).1,(pf8 e).2.1,(pf8 e).2.2.1,(pe3 (pf8 e)),(pe4 (pf8 e)),(pe5 (pf8 e)),(pf6 (pf8 e)),()))) (fun c=>(c.1,c.2.1,c.2.2.1,(pe3 c),(pe4 c),(pe7 c),(pf8 c).1,(pf8 c).2.1,(pf8 c).2.2.1,(pe3 (pf8 c)),(pe4 (pf8 c)),(pe5 (pf8 c)))) (fun{R} c a nx dn rt=>yb c.1 c.2.1 c.2.2.1 (pe3 c) (pe4 c) (pe5 c) (pe6 c) (pe7 c) (pf8 c).1 (pf8 c).2.1 (pf8 c).2.2.1 (pe3 (pf8 c)) (pe4 (pf8 c)) (pe5 (pf8 c)) (pe6 (pf8 c)) (pf7 (pf8 c)) a.1 a.2.1 a.2.2.1 (pe3 a) (pe4 a) (pe5 a) (pe6 a) (pe7 a) (pf8 a).1 (pf8 a).2.1 (pf8 a).2.2.1 (pe3 (pf8 a)) (pe4 (pf8 a)) (pe5 (pf8 a)) (pe6 (pf8 a)) (pf7 (pf8 a)) nx dn rt),qkk _ 203 [] jjp (A:=((List ByteArray)×Int×qL1×Int×Int×Int×(List af)×Int×Int×Int×Int×Int×Int×(List af)×Int×Int×(List ByteArray)×Int×Int×Int×Int×Int×qL2×qL1×qL1×(List aq)×(List Bool)×(List (ByteArray×Int))×(List ab))) (fun x=>(x.1.1,x.1.2.1,(pe4 x.1),(pe7 x.1),(pf8 x.1).1,x.2.1.1,x.2.1.2.1,x.2.1.2.2.1,(pe3 x.2.1),x.2.2.1.1,x.2.2.1.2.1,x.2.2.1.2.2.1,(pe3 x).1,(pe3 x).2.1,(pe3 x).2.2.1,(pe3 (pe3 x)),(pe4 (pe3 x)),(pe5 (pe3 x)),(pe6 (pe3 x)),(pe7 (pe3 x)),(pe5 x).1,(pe5 x).2.1,(pe6 x),(pe7 x),(pf8 x).1,(pf8 x).2.1,(pf8 x).2.2.1,(pe3 (pf8 x)),(pe4 (pf8 x)))) jjk (CE:=((List ByteArray)×Int×qL1×Int×Int×Int×(List af)×Int×Int×Int×Int×Int)) (E:=(Int×(List af)×Int×Int×(List ByteArray)×Int×Int×Int×qL2×qL1×qL1×(List aq)×(List Bool)×(List (ByteArray×Int))×(List ab))) (fun c e=>((c.1,c.2.1,(),(),c.2.2.1,(),(),(pe3 c),(pe4 c),()),(((pe5 c),(pe6 c),(pe7 c),(pf8 c).1,()),((pf8 c).2.1,(pf8 c).2.2.1,(pf8 c).2.2.2,()),(e.1,e.2.1,e.2.2.1,(pe3 e),(pe4 e),(pe5 e),(pe6 e),(pe7 e),(),(),(),(),(),(),()),((),()),(pf8 e).1,(pf8 e).2.1,(pf8 e).2.2.1,(pe3 (pf8 e)),(pe4 (pf8 e)),(pe5 (pf8 e)),(pf6 (pf8 e)),()))) (fun c=>(c.1,c.2.1,c.2.2.1,(pe3 c),(pe4 c),(pe5 c),(pe6 c),(pe7 c),(pf8 c).1,(pf8 c).2.1,(pf8 c).2.2.1,(pe3 (pf8 c)))) (fun{R} c dn rt=>qqx c.1 c.2.1 c.2.2.1 (pe3 c) (pe4 c) (pe5 c) (pe6 c) (pe7 c) (pf8 c).1 (pf8 c).2.1 (pf8 c).2.2.1 (pe3 (pf8 c)) (pe4 (pf8 c)) (pe5 (pf8 c)) (pe6 (pf8 c)) (pe7 (pf8 c)) (pf8 (pf8 c)).1 (pf8 (pf8 c)).2.1 (pf8 (pf8 c)).2.2.1 (pe3 (pf8 (pf8 c))) (pe4 (pf8 (pf8 c))) (pe5 (pf8 (pf8 c))) (pe6 (pf8 (pf8 c))) (pe7 (pf8 (pf8 c))) (pf8 (pf8 (pf8 c))).1 (pf8 (pf8 (pf8 c))).2.1 (pf8 (pf8 (pf8 c))).2.2.1 (pe3 (pf8 (pf8 (pf8 c)))) (pf4 (pf8 (pf8 (pf8 c)))) dn rt),qkk _ 203 [] jjp (A:=((List ByteArray)×Int×qL1×Int×Int×Int×(List af)×Int×Int×Int×Int×Int×Int×(List af)×Int×Int×(List ByteArray)×Int×Int×Int×Int×Int×qL2×qL1×qL1×(List aq)×(List Bool)×(List (ByteArray×Int))×(List ab))) (fun x=>(x.1.1,x.1.2.1,(pe4 x.1),(pe7 x.1),(pf8 x.1).1,x.2.1.1,x.2.1.2.1,x.2.1.2.2.1,(pe3 x.2.1),x.2.2.1.1,x.2.2.1.2.1,x.2.2.1.2.2.1,(pe3 x).1,(pe3 x).2.1,(pe3 x).2.2.1,(pe3 (pe3 x)),(pe4 (pe3 x)),(pe5 (pe3 x)),(pe6 (pe3 x)),(pe7 (pe3 x)),(pe5 x).1,(pe5 x).2.1,(pe6 x),(pe7 x),(pf8 x).1,(pf8 x).2.1,(pf8 x).2.2.1,(pe3 (pf8 x)),(pe4 (pf8 x)))) jjk (CE:=((List ByteArray)×Int×qL1×Int×(List af)×Int×Int×Int×Int×Int)) (E:=(Int×Int×Int×(List af)×Int×Int×(List ByteArray)×Int×Int×Int×qL2×qL1×qL1×(List aq)×(List Bool)×(List (ByteArray×Int))×(List ab))) (fun c e=>((c.1,c.2.1,(),(),c.2.2.1,(),(),e.1,e.2.1,()),(((pe3 c),(pe4 c),(pe5 c),(pe6 c),()),((pe7 c),(pf8 c).1,(pf8 c).2,()),(e.2.2.1,(pe3 e),(pe4 e),(pe5 e),(pe6 e),(pe7 e),(pf8 e).1,(pf8 e).2.1,(),(),(),(),(),(),()),((),()),(pf8 e).2.2.1,(pe3 (pf8 e)),(pe4 (pf8 e)),(pe5 (pf8 e)),(pe6 (pf8 e)),(pe7 (pf8 e)),(pf8 (pf8 e)),()))) (fun c=>(c.1,c.2.1,c.2.2.1,(pe5 c),(pe6 c),(pe7 c),(pf8 c).1,(pf8 c).2.1,(pf8 c).2.2.1,(pe3 (pf8 c)))) (fun{R} c dn rt=>qc1 c.1 c.2.1 c.2.2.1 (pe3 c) (pe4 c) (pe5 c) (pe6 c) (pe7 c) (pf8 c).1 (pf8 c).2.1 (pf8 c).2.2.1 (pe3 (pf8 c)) (pe4 (pf8 c)) (pe5 (pf8 c)) (pe6 (pf8 c)) (pe7 (pf8 c)) (pf8 (pf8 c)).1 (pf8 (pf8 c)).2.1 (pf8 (pf8 c)).2.2.1 (pe3 (pf8 (pf8 c))) (pe4 (pf8 (pf8 c))) (pe5 (pf8 (pf8 c))) (pe6 (pf8 (pf8 c))) (pe7 (pf8 (pf8 c))) (pf8 (pf8 (pf8 c))).1 (pf8 (pf8 (pf8 c))).2.1 (pf8 (pf8 (pf8 c))).2.2.1 (pe3 (pf8 (pf8 (pf8 c)))) (pf4 (pf8 (pf8 (pf8 c)))) dn rt),au _ 203 [] jjk (C:=((List ByteArray)×Int×qL1×Int×(List af)×Int×Int×Int×Int×Int)) (S:=(Int×Int×Int×(List af)×Int×Int×(List ByteArray)×Int×Int×Int×qL2×qL1×qL1×(List aq)×(List Bool)×(List (ByteArray×Int))×(List ab))) (fun x=>((x.1.1,x.1.2.1,(pe4 x.1),x.2.1.1,x.2.1.2.1,x.2.1.2.2.1,(pe3 x.2.1),x.2.2.1.1,x.2.2.1.2.1,x.2.2.1.2.2.1),((pe7 x.1),(pf8 x.1).1,(pe3 x).1,(pe3 x).2.1,(pe3 x).2.2.1,(pe3 (pe3 x)),(pe4 (pe3 x)),(pe5 (pe3 x)),(pe6 (pe3 x)),(pe7 (pe3 x)),(pe5 x),(pe6 x),(pe7 x),(pf8 x).1,(pf8 x).2.1,(pf8 x).2.2.1,(pe3 (pf8 x))))) jjm (CE:=Unit) (E:=(Int×Int×(List af)×Int×Int×(List ByteArray)×Int×Int×Int×qL2×qL1×qL1×(List aq)×(List Bool)×(List (ByteArray×Int)))) (fun c e=>(((),e.1,()),((e.2.1,e.2.2.1,(pe3 e),(pe4 e),(pe5 e),(pe6 e),(pe7 e),(pf8 e).1,(),(),(),(),(),(),()),(pf8 e).2.1,(pf8 e).2.2.1,(pe3 (pf8 e)),(pe4 (pf8 e)),(pe5 (pf8 e)),(pf6 (pf8 e)),()))) (fun c=>()) (fun{R} c a nx dn rt=>mq c.1 c.2.1 c.2.2.1 (pe3 c) (pe4 c) (pe5 c) (pe6 c) (pe7 c) (pf8 c).1 (pf8 c).2 a.1 a.2.1 a.2.2.1 (pe3 a) (pe4 a) (pe5 a) (pe6 a) (pe7 a) (pf8 a).1 (pf8 a).2.1 (pf8 a).2.2.1 (pe3 (pf8 a)) (pe4 (pf8 a)) (pe5 (pf8 a)) (pe6 (pf8 a)) (pe7 (pf8 a)) (pf8 (pf8 a)) nx dn rt)],jiy 203 tt [] [.tmp 8, .tmp 9, .tmp 10] q9c q3a (fun x=>(x.1.2.1,x.1.2.2.1,x.2.1.1,x.2.1.2.1,x.2.1.2.2.1,(pe3 x.2.1),(pe4 x.2.1),(pe5 x.2.1),(pe6 x.2.1),(pe7 x.2.1),x.2.2.1,(pe3 x),(pe4 x),(pe5 x),(pe6 x),(pe7 x))) (fun x=>(x.1.1,x.1.2.1))⟩
theorem qj0:Zk qj1:=Zl (mC jcw (mC qf4 (mC qwt (mC qva (mC qt7 (mC qa9 (mC qy9 (mC be (mC q8f (mC q77 (mC qte (mC qh5 m0))))))))))))
theorem jml:a8 Tryz.prog qj1 0 (lc 3 Tryz.f30 20965631):=lp rfl qj0 (Zo (Zo (.two (.one (Zo (.two (.d [0,0,0,4,12,28,0,64,252,508,0,2047,4095,8191,8191,16383,65535] [] []) .z))) .z))) s0 (fun c a=>((c.1,c.2.1,(),(),c.2.2.1,(),(),(pe3 c),(pe4 c),(),(pe5 c),(pe6 c),a.1,()),(((pe7 c),(pf8 c).1,(pf8 c).2.1,(pf8 c).2.2.1,()),((pe3 (pf8 c)),(pe4 (pf8 c)),(pe5 (pf8 c)),()),(a.2.1,a.2.2.1,(pe3 a),(pe4 a),(pe5 a),(pe6 a),(pe7 a),(pf8 a).1,(),(),(),(),(),(),()),((),()),((pe6 (pf8 c)),(pf7 (pf8 c)),()),(pf8 a).2.1,(pf8 a).2.2.1,(pe3 (pf8 a)),(pe4 (pf8 a)),(pe5 (pf8 a)),(pe6 (pf8 a)),(pf7 (pf8 a)),()))) (fun y=>((y.1.1,y.1.2.1,(pe4 y.1),(pe7 y.1),(pf8 y.1).1,y.2.1.1,y.2.1.2.1,y.2.1.2.2.1,(pe3 y.2.1),y.2.2.1.1,y.2.2.1.2.1,y.2.2.1.2.2.1),((pe3 y).1,(pe3 y).2.1,(pe3 y).2.2.1,(pe3 (pe3 y)),(pe4 (pe3 y)),(pe5 (pe3 y)),(pe6 (pe3 y)),(pe7 (pe3 y)),(pe5 y),(pe6 y),(pe7 y),(pf8 y).1,(pf8 y).2.1,(pf8 y).2.2.1,(pe3 (pf8 y)))))
theorem jmm:a8 Tryz.prog qj1 1 (jc Tryz.f30 1042687):=jn rfl qj0 (.two (.d [0,0,0,4,12,28,0,64,252,508,1023,2047,4095,4095,8191,32767] [] []) Xy) (sC jml s0) (fun c=>((c.1,c.2.1,(),(),c.2.2.1,(),(),(pe3 c),(pe4 c),(),()),(((pe5 c),(pe6 c),(pe7 c),(pf8 c).1,()),((pf8 c).2.1,(pf8 c).2.2.1,(pe3 (pf8 c)),()),((pe4 (pf8 c)),(pe5 (pf8 c)),(pe6 (pf8 c)),(pe7 (pf8 c)),(pf8 (pf8 c)).1,(pf8 (pf8 c)).2.1,(pf8 (pf8 c)).2.2.1,(pe3 (pf8 (pf8 c))),(),(),(),(),(),(),()),((),()),((pe4 (pf8 (pf8 c))),(pe5 (pf8 (pf8 c))),()),(pe6 (pf8 (pf8 c))),(pe7 (pf8 (pf8 c))),(pf8 (pf8 (pf8 c))).1,(pf8 (pf8 (pf8 c))).2.1,(pf8 (pf8 (pf8 c))).2.2.1,(pe3 (pf8 (pf8 (pf8 c)))),(pf4 (pf8 (pf8 (pf8 c)))),()))) (fun y=>((y.1.1,y.1.2.1,(pe4 y.1),(pe7 y.1),(pf8 y.1).1,y.2.1.1,y.2.1.2.1,y.2.1.2.2.1,(pe3 y.2.1),y.2.2.1.1,y.2.2.1.2.1,y.2.2.1.2.2.1),((pe3 y).1,(pe3 y).2.1,(pe3 y).2.2.1,(pe3 (pe3 y)),(pe4 (pe3 y)),(pe5 (pe3 y)),(pe6 (pe3 y)),(pe7 (pe3 y)),(pe5 y),(pe6 y),(pe7 y),(pf8 y).1,(pf8 y).2.1,(pf8 y).2.2.1,(pe3 (pf8 y)))))
theorem jmn:a8 Tryz.prog qj1 2 (jc Tryz.f30 125183):=jn rfl qj0 (.two (.d [0,1,3,7,0,16,63,127] [7] []) (Zo (.two (.two (.d [0,1,3,7,0,16,63,127,0,511] [] []) .z) (.s 1)))) (sC jmm s0) (fun c=>((c.1,c.2.1,(),(),c.2.2.1,(),(),(pe3 c),(pe4 c),(),()),(((pe5 c),(pe6 c),(pe7 c),(pf8 c).1,()),((pf8 c).2.1,(pf8 c).2.2.1,(pe3 (pf8 c)),()),((pe4 (pf8 c)),(pe5 (pf8 c)),(pe6 (pf8 c)),(pe7 (pf8 c)),(pf8 (pf8 c)).1,(pf8 (pf8 c)).2.1,(pf8 (pf8 c)).2.2.1,(pe3 (pf8 (pf8 c))),(),(),(),(),(),(),()),((),()),((pe4 (pf8 (pf8 c))),(pe5 (pf8 (pf8 c))),()),(pe6 (pf8 (pf8 c))),(pe7 (pf8 (pf8 c))),(pf8 (pf8 (pf8 c))).1,(pf8 (pf8 (pf8 c))).2.1,(pf8 (pf8 (pf8 c))).2.2.1,(pe3 (pf8 (pf8 (pf8 c)))),(pf4 (pf8 (pf8 (pf8 c)))),()))) (fun y=>((y.1.1,y.1.2.1,(pe4 y.1),y.2.1.1,y.2.1.2.1,y.2.1.2.2.1,(pe3 y.2.1),y.2.2.1.1,y.2.2.1.2.1,y.2.2.1.2.2.1),((pe7 y.1),(pf8 y.1).1,(pe3 y).1,(pe3 y).2.1,(pe3 y).2.2.1,(pe3 (pe3 y)),(pe4 (pe3 y)),(pe5 (pe3 y)),(pe6 (pe3 y)),(pe7 (pe3 y)),(pe5 y),(pe6 y),(pe7 y),(pf8 y).1,(pf8 y).2.1,(pf8 y).2.2.1,(pe3 (pf8 y)))))
theorem jmo:a8 Tryz.prog qj1 3 (lc 1 Tryz.f30 2303):=lp rfl qj0 (Zo (.one (Zo (.two (.two (.d [0,1,3,7,0,16,63,127] [] []) .z) (.two (.two (.d [0,1,3,7,15,7,39,103,231,7,999,2023,4095,8191] [] []) .z) (.s 2)))))) (sC jmn s0) (fun c a=>((c.1,c.2.1,(),(),c.2.2.1,(),(),a.1,a.2.1,()),(((pe3 c),(pe4 c),(pe5 c),(pe6 c),()),((pe7 c),(pf8 c).1,(pf8 c).2,()),(a.2.2.1,(pe3 a),(pe4 a),(pe5 a),(pe6 a),(pe7 a),(pf8 a).1,(pf8 a).2.1,(),(),(),(),(),(),()),((),()),(pf8 a).2.2.1,(pe3 (pf8 a)),(pe4 (pf8 a)),(pe5 (pf8 a)),(pe6 (pf8 a)),(pe7 (pf8 a)),(pf8 (pf8 a)),()))) (fun y=>((),(y.1.2.1,y.2.1.1,y.2.1.2.1,y.2.1.2.2.1,(pe3 y.2.1),(pe4 y.2.1),(pe5 y.2.1),(pe6 y.2.1),(pe7 y.2.1),y.2.2.1,(pe3 y),(pe4 y),(pe5 y),(pe6 y),(pe7 y))))
abbrev jcx:Mdl:=(jk4 (Zb ZS ZM ZV Zr) [] [] 3 q9c q3a (B1:=(Int×Int×Int×(List af)×Int×Int×(List ByteArray)×Int×Int×Int×qL2×qL1×qL1×(List aq)×(List Bool)×(List (ByteArray×Int)))) (B2:=(Int×Int)) (fun b=>(((),b.1,b.2.1,()),((b.2.2.1,(pe3 b),(pe4 b),(pe5 b),(pe6 b),(pe7 b),(pf8 b).1,(pf8 b).2.1,(),(),(),(),(),(),()),(pf8 b).2.2.1,(pe3 (pf8 b)),(pe4 (pf8 b)),(pe5 (pf8 b)),(pe6 (pf8 b)),(pf7 (pf8 b)),()))) (fun b=>((b.1,b.2,()),(()))) (fun a=>qok a.1.1 a.1.2.1 a.1.2.2.1 (pe3 a.1)))
theorem jjs:Zj 30 jcx:=zcu Tryz.func30 rfl qj0 (Zo (Zo (Zo (Zo (Zo (Zo (Zo (Zo (.two (.s 3) .z))))))))) (sC jmo s0)
abbrev jjh:Ctx ((Int×Int)):=Zn 32 [(30,jcx)] [] XM qws (fun x=>(x.1.1,x.1.2.1))
theorem jjg:Zk jjh:=Zl (mC jjs m0)
abbrev q23:Mdl:=(ar (Zb ZS ZM ZV Zr) [] [] 2 qws (B:=(Int×Int)) (fun b=>((b.1,b.2,()),(()))) (fun a=>sq a.1.1 a.1.2.1 a.1.2.2.1 (pe3 a.1)))
theorem jcv:Zj 9 q23:=jf Tryz.func9 rfl jjg .z s0
abbrev q10:Ctx (Int):=Zn 9 [] [] XL ry (fun x=>x.1.1)
theorem q1z:Zk q10:=Zl m0
abbrev qbf:Mdl:=(ar (Zf Zr ZF) [] [] 1 ry (B:=Int) (fun b=>((b,()),(()))) (fun a=>lb a.1.1 a.1.2.1))
theorem qhe:Zj 34 qbf:=jf Tryz.func34 rfl q1z .z s0
abbrev my:Ctx ((List ae)):=Zn 77 [(34,qbf),(182,ub)] [au _ 77 [] qny (C:=((List ag)×Bool×Int×Int×Int×(List (Int×(List ab)))×Nat×(List ab)×Int×(List (Int×(List ab)))×Int×Int)) (S:=(Bool×Int×(List ae))) (fun x=>((x.1.1.1,x.1.2.1,(pe5 x.1),(pe6 x.1),(pe7 x.1),(pf8 x.1).1,(pf8 x.1).2.1,(pf8 x.1).2.2.1,(pe3 (pf8 x.1)),x.2.1.1,x.2.1.2.1,x.2.1.2.2.1),((pe4 x.1),(pe4 (pf8 x.1)),x.2.2.1))) qnx (CE:=((List ag)×Bool×Int×Int×(List (Int×(List ab)))×Nat×(List (Int×(List ab)))×Int×Int)) (E:=(Bool×(List ae))) (fun c e=>(((c.1,()),c.2.1,(),(),e.1,c.2.2.1,(pe3 c),(pe4 c),(pe5 c),()),(((pe6 c),(pe7 c),(pf8 c),()),e.2,()))) (fun c=>(c.1,c.2.1,(pe3 c),(pe4 c),(pe5 c),(pe6 c),(pf8 c).2.1,(pf8 c).2.2.1,(pf8 c).2.2.2)) (fun{R} c a nx dn rt=>qam c.1 c.2.1 c.2.2.1 (pe3 c) (pe4 c) (pe5 c) (pe7 c) (pf8 c).1 (pf8 c).2.1 (pf8 c).2.2.1 (pf8 c).2.2.2 a.1 a.2.1 a.2.2 nx dn rt),qf6 _ 77 tt false [] (rc Tryz.f96 10647) qnz (C:=((List ag)×Bool×Int×Int×(List (Int×(List ab)))×(List (Int×(List ab)))×Int×Int)) (S:=(Bool×(List ae))) (fun x=>((x.1.1.1,x.1.2.1,(pe5 x.1),(pe6 x.1),(pe7 x.1),x.2.1.1,x.2.1.2.1,x.2.1.2.2.1),((pe4 x.1),x.2.2.1))) (fun c a=>(((c.1,()),c.2.1,(),(),a.1,c.2.2.1,(pe3 c),(pe4 c),()),(((pe5 c),(pe6 c),(pf7 c),()),a.2,()))) (fun c=>(pe4 c)) (fun{R} c a en nx rt=>qan c.1 c.2.1 c.2.2.1 (pe3 c) (pe4 c) (pe5 c) (pe6 c) (pf7 c) a.1 a.2 en nx rt),q7p _ 77 [] qn1 (C:=((List ag)×Bool×Int×(List (Int×(List ab)))×Int×Int)) (S:=(Int×(List ae))) (fun x=>((x.1.1.1,x.1.2.1,(pe4 x.1),x.2.1.1,x.2.1.2.1,x.2.1.2.2.1),((pe5 x.1),x.2.2.1))) qlz (CE:=Unit) (E:=(List ae)) (fun c e=>(((),()),(e,()))) (fun c=>()) (fun{R} c a nx dn rt=>qao c.1 c.2.1 c.2.2.1 (pe3 c) (pe4 c) (pf5 c) a.1 a.2 nx dn rt)] XK qb (fun x=>x.2.1)
theorem mw:Zk my:=Zl (mC qhe (mC xw m0))
theorem qpm:a8 Tryz.prog my 0 (lc 4 Tryz.f96 10168727):=lp rfl mw Xh s0 (fun c a=>(((c.1,()),c.2.1,(),(),a.1,c.2.2.1,(pe3 c),(pe4 c),(pe5 c),(pe6 c),(pe7 c),(pf8 c).1,a.2.1,()),(((pf8 c).2.1,(pf8 c).2.2.1,(pf8 c).2.2.2,()),a.2.2,()))) (fun y=>((y.1.1.1,y.1.2.1,(pe5 y.1),(pe6 y.1),(pe7 y.1),(pf8 y.1).1,y.2.1.1,y.2.1.2.1,y.2.1.2.2.1),((pe4 y.1),y.2.2.1)))
theorem qpn:a8 Tryz.prog my 1 ((rc Tryz.f96 10647).code):=rl qT0 (.slice ab.ty) rfl mw XB (sC qpm s0) 85 28 29 30 32 false rfl
theorem qpo:a8 Tryz.prog my 2 (lc 0 Tryz.f96 151):=nl rfl mw Xq (sC qpn s0) (fun c a=>(((c.1,()),c.2.1,(),(),c.2.2.1,a.1,()),(((pe3 c),(pe4 c),(pf5 c),()),a.2,()))) (fun y=>((),y.2.1))
abbrev qdl:Mdl:=(ar (Za (.agg (Za ZC Zr Zr)) (.fn 34 (Ze ZF)) ZB) [] [] 1 qb (B:=(List ae)) (fun b=>(((),()),(b,()))) (fun a=>qfb a.1.1.1 a.1.1.2.1 a.1.1.2.2.1 a.1.2.1.1 a.1.2.2.1))
theorem qn2:Zj 96 qdl:=jf Tryz.func96 rfl mw (Zo Xs) (sC qpo s0)
abbrev vx:Ctx (qL1):=Zn 93 [(96,qdl),(34,qbf)] [au _ 93 [] qpq (C:=((List ag)×(List ae)×Int×(List ab)×Int×(List (Int×(List ab)))×Int×Int×qL1)) (S:=(Int×Int×Int)) (fun x=>((x.1.1.1,x.1.2.2.1,(pe4 x.1),(pe6 x.1),(pe7 x.1),x.2.1.1,x.2.1.2.1,x.2.1.2.2.1,x.2.2.1),((pf8 x.1).1,(pe3 x).1,(pe3 x).2.1))) qpp (CE:=((List ag)×(List ae)×(List (Int×(List ab)))×Int×Int×qL1)) (E:=(Int×Int)) (fun c e=>(((c.1,()),(),c.2.1,(),(),()),((c.2.2.1,(pe3 c),(pe4 c),()),(pf5 c),(e.1,e.2,()),()))) (fun c=>(c.1,c.2.1,(pe5 c),(pe6 c),(pe7 c),(pf8 c))) (fun{R} c a nx dn rt=>qcl c.1 c.2.1 c.2.2.1 (pe3 c) (pe4 c) (pe5 c) (pe6 c) (pe7 c) (pf8 c) a.1 a.2.1 a.2.2 nx dn rt),au _ 93 [] qps (C:=((List ag)×(List ae)×(List (Int×(List ab)))×Int×Int)) (S:=(Int×qL1)) (fun x=>((x.1.1.1,x.1.2.2.1,x.2.1.1,x.2.1.2.1,x.2.1.2.2.1),((pe4 x.1),x.2.2.1))) qpr (CE:=Unit) (E:=qL1) (fun c e=>(((),()),(e,()))) (fun c=>()) (fun{R} c a nx dn rt=>qcm c.1 c.2.1 c.2.2.1 (pe3 c) (pf4 c) a.1 a.2 nx dn rt)] XK qau (fun x=>x.2.1)
theorem vq:Zk vx:=Zl (mC qn2 (mC qhe m0))
theorem qrz:a8 Tryz.prog vx 0 (lc 2 Tryz.f33 19095):=lp rfl vq (Zo (Zo (.two (.one (Zo (Zo (.two (.d [0,1,3,7,15,7,7,71,231,511,7,7,3079,7175,15367,32767,65535,131071,262143,524287,1048575,262143,262143,6553599,14942207,31719423,67108863,134217727,268435455,536870911,1073741823,2147483647,4294967295,8589934591,17179869183,8589934591,42949672959,137438953471,274877906943,549755813887] [] []) .z)))) .z))) s0 (fun c a=>(((c.1,()),(),c.2.1,(),c.2.2.1,(),(pe3 c),(pe4 c),a.1,()),(((pe5 c),(pe6 c),(pe7 c),()),(pf8 c),(a.2.1,a.2.2,()),()))) (fun y=>((y.1.1.1,y.1.2.2.1,y.2.1.1,y.2.1.2.1,y.2.1.2.2.1,y.2.2.1),((pe3 y).1,(pe3 y).2.1)))
theorem qr0:a8 Tryz.prog vx 1 (lc 0 Tryz.f33 151):=lp rfl vq (Zo (.one Xf)) (sC qrz s0) (fun c a=>(((c.1,()),(),c.2.1,(),a.1,()),((c.2.2.1,(pe3 c),(pf4 c),()),a.2,()))) (fun y=>((),y.2.1))
abbrev qfg:Mdl:=(ar (Za (.agg (Za ZC Zr Zr)) (.fn 34 (Ze ZF)) ZB) [] [] 1 qau (B:=qL1) (fun b=>(((),()),(b,()))) (fun a=>xu a.1.1.1 a.1.1.2.1 a.1.1.2.2.1 a.1.2.1.1 a.1.2.2.1))
theorem qpt:Zj 33 qfg:=jf Tryz.func33 rfl vq (Zo XD) (sC qr0 s0)
abbrev q72:Ctx ((Int×qL1)):=Zn 35 [(31,qdk),(32,pe),(33,qfg)] [] XM q91 (fun x=>(x.1.2.1,x.2.1))
theorem q71:Zk q72:=Zl (mC qf2 (mC ua (mC qpt m0)))
abbrev qpi:Mdl:=(ar (Zb Zw Zv ZH Zr) [] [] 2 q91 (B:=(Int×qL1)) (fun b=>(((),b.1,()),(b.2,()))) (fun a=>o5 a.1.1 a.1.2.1 a.1.2.2.1 (pe3 a.1)))
theorem q11:Zj 10 qpi:=jf Tryz.func10 rfl q71 .z s0
def q42:Shp:=⟨[Yr,qu6],[j4f]⟩
abbrev q90:Ctx ((Int×(List ByteArray))):=Zn 47 [(27,cn)] [au _ 47 [] jgt (C:=(qL1×Int×Int×(List af)×Int×Int)) (S:=(Int×(List ByteArray))) (fun x=>((x.1.2.2.1,(pe3 x.1),x.2.1.1,x.2.1.2.1,x.2.1.2.2.1,(pe3 x.2.1)),((pe4 x.1),x.2.2.1))) jgs (CE:=Unit) (E:=(List ByteArray)) (fun c e=>(((),()),(e,()))) (fun c=>()) (fun{R} c a nx dn rt=>qag c.1 c.2.1 c.2.2.1 (pe3 c) (pe4 c) (pf5 c) a.1 a.2 nx dn rt)] XI q42 (fun x=>(x.1.2.1,x.2.1))
theorem q9y:Zk q90:=Zl (mC ca m0)
theorem jlg:a8 Tryz.prog q90 0 (lc 1 Tryz.f11 151):=lp rfl q9y .z s0 (fun c a=>(((),(),c.1,c.2.1,a.1,()),((c.2.2.1,(pe3 c),(pe4 c),(pf5 c),()),a.2,()))) (fun y=>((),y.2.1))
abbrev q9z:Mdl:=(ar (Zf Zw Zv) [] [] 2 q42 (B:=(Int×(List ByteArray))) (fun b=>(((),b.1,()),(b.2,()))) (fun a=>qkn a.1.1 a.1.2.1))
theorem jgu:Zj 11 q9z:=jf Tryz.func11 rfl q9y (Zo XC) (sC jlg s0)
abbrev q8x:Ctx (Bool):=Zn 6 [(37,ye)] [] XG qzz (fun x=>x.1.1)
theorem q8w:Zk q8x:=Zl (mC xk m0)
abbrev qqk:Mdl:=(ar (Ze ZN) [] [] 1 qzz (B:=Bool) (fun b=>((b,()),(()))) (fun a=>qie a.1.1))
theorem q2j:Zj 36 qqk:=jf Tryz.func36 rfl q8w .z s0
abbrev nz:Ctx (Int):=Zn 19 [(36,qqk)] [au _ 19 [] zj (C:=((List ByteArray)×Int)) (S:=Int) (fun x=>((x.1.1,x.1.2.2.1),(pe3 x.1))) jd5 (CE:=Unit) (E:=Unit) (fun c e=>((()),(()))) (fun c=>()) (fun{R} c a nx dn rt=>dl c.1 c.2 a nx dn rt)] XF ry (fun x=>x.1.1)
theorem nw:Zk nz:=Zl (mC q2j m0)
theorem qaw:a8 Tryz.prog nz 0 (lc 0 Tryz.f97 37):=lp rfl nw .z s0 (fun c a=>((c.1,(()),c.2,a,()),(()))) (fun y=>((),()))
abbrev ny:Mdl:=(ar (Zf ZD (.fn 36 .nil)) [] [] 1 ry (B:=Int) (fun b=>((b,()),(()))) (fun a=>io a.1.1))
theorem zk:Zj 97 ny:=jf Tryz.func97 rfl nw Xf (sC qaw s0)
abbrev yl:Ctx (Bool):=Zn 9 [(97,ny)] [] XF qzz (fun x=>x.1.1)
theorem yk:Zk yl:=Zl (mC zk m0)
abbrev lw:Mdl:=(ar (Zf ZD (.fn 36 .nil)) [] [] 1 qzz (B:=Bool) (fun b=>((b,()),(()))) (fun a=>dj a.1.1))
theorem wv:Zj 35 lw:=jf Tryz.func35 rfl yk .z s0
abbrev jly:Ctx (Int):=Zn 14 [(27,cn)] [] XF ry (fun x=>x.1.1)
theorem jlx:Zk jly:=Zl (mC ca m0)
abbrev q53:Mdl:=(ar (Zf Zw Zr) [] [] 1 ry (B:=Int) (fun b=>((b,()),(()))) (fun a=>qm7 a.1.1 a.1.2.1))
theorem jfu:Zj 38 q53:=jf Tryz.func38 rfl jlx .z s0
abbrev jl4:Ctx ((o7×Int)):=Zn 35 [(7,rb),(100,qlh)] [] [.cell 4 98, .tmp 5] qty (fun x=>(x.1.1,x.1.2.1))
theorem jl3:Zk jl4:=Zl (mC rf (mC qql m0))
abbrev q56:Mdl:=(ar (Zf Zw Zr) [] [] 2 qty (B:=(o7×Int)) (fun b=>((b.1,b.2,()),(()))) (fun a=>qm8 a.1.1 a.1.2.1))
theorem jfy:Zj 39 q56:=jf Tryz.func39 rfl jl3 .z s0
def q55:Shp:=⟨[Ys],[.cs 107 9 1 (Zd Zu Zx Zu Zu Zy Zz ZI ZG Zu),jub]⟩
abbrev jai:Ctx ((Int×(List af)×Int×Int×qL2×(List ak)×Bool×Int×(List (List ak)))):=Zn 58 [(101,qdg),(102,qxp)] [au _ 58 [] jhr (C:=((List ak)×Int×Int×(List af)×Int×Int×qL2×(List ak)×Bool×Int×(List af)×Int×Int×qL2×(List ak)×Bool×Int)) (S:=(Int×(List (List ak)))) (fun x=>(((pe3 x.1),(pe4 x.1),x.2.1.1,x.2.1.2.1,x.2.1.2.2.1,(pe3 x.2.1),x.2.2.1.1,x.2.2.1.2.1,x.2.2.1.2.2.1,(pe3 x).1,(pe3 x).2.1,(pe3 x).2.2.1,(pe3 (pe3 x)),(pe4 (pe3 x)),(pe5 (pe3 x)),(pe6 (pe3 x)),(pf8 (pe3 x)).1),((pe5 x.1),(pe4 x)))) jhq (CE:=(Int×(List af)×Int×Int×qL2×(List ak)×Bool×Int×(List af)×Int×Int×qL2×(List ak)×Bool×Int)) (E:=(List (List ak))) (fun c e=>(((),(),(),()),((c.1,c.2.1,c.2.2.1,(pe3 c),()),((pe4 c),(pe5 c),(pe6 c),()),((pe7 c),(pf8 c).1,(pf8 c).2.1,(pf8 c).2.2.1,(pe3 (pf8 c)),(pe4 (pf8 c)),(pe5 (pf8 c)),(),(pf6 (pf8 c)),()),e,()))) (fun c=>(c.2.2.1,(pe3 c),(pe4 c),(pe5 c),(pe6 c),(pe7 c),(pf8 c).1,(pf8 c).2.1,(pf8 c).2.2.1,(pe3 (pf8 c)),(pe4 (pf8 c)),(pe5 (pf8 c)),(pe6 (pf8 c)),(pe7 (pf8 c)),(pf8 (pf8 c)))) (fun{R} c a nx dn rt=>qgy c.1 c.2.1 c.2.2.1 (pe3 c) (pe4 c) (pe5 c) (pe6 c) (pe7 c) (pf8 c).1 (pf8 c).2.1 (pf8 c).2.2.1 (pe3 (pf8 c)) (pe4 (pf8 c)) (pe5 (pf8 c)) (pe6 (pf8 c)) (pe7 (pf8 c)) (pf8 (pf8 c)) a.1 a.2 nx dn rt)] XF q55 (fun x=>(x.2.1.1,x.2.1.2.1,x.2.1.2.2.1,(pe3 x.2.1),(pe4 x.2.1),(pe5 x.2.1),(pe6 x.2.1),(pf8 x.2.1).1,x.2.2.1))
theorem jag:Zk jai:=Zl (mC qdh (mC q0x m0))
theorem jl2:a8 Tryz.prog jai 0 (lc 0 Tryz.f40 75):=lp rfl jag (Zo (Zo (.two (.one (Zo (.d [0,1,3,7,0,16,0,64,192,448,0,1024,4032,8128,0,16384,65472,131071,262143] [16,18] []))) .z))) s0 (fun c a=>(((),(),(),c.1,c.2.1,a.1,()),((c.2.2.1,(pe3 c),(pe4 c),(pe5 c),()),((pe6 c),(pe7 c),(pf8 c).1,()),((pf8 c).2.1,(pf8 c).2.2.1,(pe3 (pf8 c)),(pe4 (pf8 c)),(pe5 (pf8 c)),(pe6 (pf8 c)),(pe7 (pf8 c)),(),(pf8 (pf8 c)),()),a.2,()))) (fun y=>((y.2.1.1,y.2.1.2.1,y.2.1.2.2.1,(pe3 y.2.1),y.2.2.1.1,y.2.2.1.2.1,y.2.2.1.2.2.1,(pe3 y).1,(pe3 y).2.1,(pe3 y).2.2.1,(pe3 (pe3 y)),(pe4 (pe3 y)),(pe5 (pe3 y)),(pe6 (pe3 y)),(pf8 (pe3 y)).1),(pe4 y)))
abbrev jah:Mdl:=(ar (Zf ZS (.d true o7.ty)) [] [] 1 q55 (B:=(Int×(List af)×Int×Int×qL2×(List ak)×Bool×Int×(List (List ak)))) (fun b=>(((),()),((b.1,b.2.1,b.2.2.1,(pe3 b),(pe4 b),(pe5 b),(pe6 b),(),(pe7 b),()),(pf8 b),()))) (fun a=>qsd a.1.1 a.1.2.1))
theorem jhs:Zj 40 jah:=jf Tryz.func40 rfl jag (Zo (.two (.d [0,0,0,4,12,28,63,127,255] [] []) (.two XB .z))) (sC jl2 s0)
def qhw:Shp:=⟨[q9s],[qqo]⟩
abbrev q4:Ctx ((List Bool)):=⟨72,tt,false,false,[true],gp [],iw [au _ 72 [true] qux (C:=(aw×Int×(List Bool))) (S:=(Int×qL1)) (fun x=>((x.1.1,(pe4 x.1),x.2.1),((pe5 x.1),x.2.2.1))) quw (CE:=(aw×(List Bool))) (E:=qL1) (fun c e=>((c.1,(),(),()),(c.2,e,()))) (fun c=>(c.1,c.2.2)) (fun{R} c a nx dn rt=>j4 c.1 c.2.1 c.2.2 a.1 a.2 nx dn rt),au _ 72 [true] quz (C:=(aw×(List ak)×Int)) (S:=(Int×(List Bool)×qL1)) (fun x=>((x.1.1,(pe3 x.1),(pe4 x.1)),((pe5 x.1),x.2.1,x.2.2.1))) quy (CE:=aw) (E:=((List Bool)×qL1)) (fun c e=>((c,(),(),()),(e.1,e.2,()))) (fun c=>c.1) (fun{R} c a nx dn rt=>eo c.1 c.2.1 c.2.2 a.1 a.2.1 a.2.2 nx dn rt),au _ 72 [true] quy (C:=aw) (S:=((List Bool)×qL1)) (fun x=>(x.1.1,(x.2.1,x.2.2.1))) qu0 (CE:=Unit) (E:=(List Bool)) (fun c e=>(((),()),(e,()))) (fun c=>()) (fun{R} c a nx dn rt=>og c a.1 a.2 nx dn rt)],bx 72 tt [true] XF qhw (fun x=>x.2.1)⟩
theorem qz:Zk q4:=Zl m0
theorem qxs:a8 Tryz.prog q4 1 (lc 4 Tryz.f103 4679):=lp rfl qz (Zo (Zo (.two (.one (Zo (.two (.d [0,1,3,7,15,0,32,127,255,511,1023,2047,4095,4095,12287,32767,65535,131071,262143] [] []) .z))) .z))) s0 (fun c a=>((c.1,(),(),c.2.1,c.2.2,a.1,()),(a.2.1,a.2.2,()))) (fun y=>(y.1.1,(y.2.1,y.2.2.1)))
theorem qxr:a8 Tryz.prog q4 0 (lc 0 Tryz.f103 75):=lp rfl qz .z s0 (fun c a=>((c.1,(),(),(),c.2.1,a.1,()),(c.2.2,a.2,()))) (fun y=>((y.1.1,y.2.1),y.2.2.1))
theorem qxt:a8 Tryz.prog q4 2 (lc 2 Tryz.f103 71):=lp rfl qz (Zo (.two (.one (.two (.d [0,1,3,7,0,16,48,127,255,511,0] [] []) (.s 1))) .z)) (sC qxs s0) (fun c a=>((c,(),(),()),(a.1,a.2,()))) (fun y=>((),y.2.1))
abbrev zn:Mdl:=(ar (Zf Yi ZO) [qqo] [true] 1 qhw (B:=(List Bool)) (fun b=>(((),()),(b,()))) (fun a=>n7 a.1.1 a.2.1))
theorem qfp:Zj 103 zn:=jf Tryz.func103 rfl qz (Zo (Zo (.two XB (.two (.s 2) .z)))) (sC qxr (sC qxt s0))
abbrev qzk:Ctx ((List Bool)):=Zn 16 [(103,zn)] [] XG qhw (fun x=>x.2.1)
theorem qzj:Zk qzk:=Zl (mC qfp m0)
abbrev qi2:Mdl:=(ar (Ze Yi) [] [] 1 qhw (B:=(List Bool)) (fun b=>(((),()),(b,()))) (fun a=>uk a.1.1))
theorem qu2:Zj 41 qi2:=jf Tryz.func41 rfl qzj .z s0
abbrev qb5:Ctx ((List Bool)):=Zn 57 [(103,zn)] [au _ 57 [] qxv (C:=(aw×ByteArray×(List Bool)×Int×Int×(List ak)×Int)) (S:=(Int×(List Bool))) (fun x=>((x.1.1,x.1.2.1,(pe3 x.1),(pe4 x.1),(pe5 x.1),(pe6 x.1),(pe7 x.1)),((pf8 x.1).1,x.2.1))) qxu (CE:=(aw×ByteArray×(List Bool)×Int×Int)) (E:=(List Bool)) (fun c e=>((c.1,c.2.1,(),c.2.2.1,(pe3 c),(pf4 c),()),(e,()))) (fun c=>(c.1,c.2.1,c.2.2.1,(pe3 c),(pe4 c))) (fun{R} c a nx dn rt=>ig c.1 c.2.1 c.2.2.1 (pe3 c) (pe4 c) (pe5 c) (pf6 c) a.1 a.2 nx dn rt),au _ 57 [] qxu (C:=(aw×ByteArray×(List Bool)×Int)) (S:=(Int×(List Bool))) (fun x=>((x.1.1,x.1.2.1,(pe3 x.1),(pe4 x.1)),((pe5 x.1),x.2.1))) qxw (CE:=aw) (E:=(List Bool)) (fun c e=>((c,(),()),(e,()))) (fun c=>c.1) (fun{R} c a nx dn rt=>ii c.1 c.2.1 c.2.2.1 c.2.2.2 a.1 a.2 nx dn rt)] XK qhw (fun x=>x.2.1)
theorem qb4:Zk qb5:=Zl (mC qfp m0)
theorem qzl:a8 Tryz.prog qb5 0 (lc 2 Tryz.f42 40139):=lp rfl qb4 (Zo (Zo (.two (.one (Zo (.two (.d [0,1,3,7,15,0,32,127,255,511,0,2047] [] []) .z))) .z))) s0 (fun c a=>((c.1,c.2.1,(),c.2.2.1,(pe3 c),(pe4 c),(pe5 c),(pf6 c),a.1,()),(a.2,()))) (fun y=>((y.1.1,y.1.2.1,(pe3 y.1),(pe4 y.1),(pe5 y.1)),y.2.1))
theorem qzm:a8 Tryz.prog qb5 1 (lc 0 Tryz.f42 75):=lp rfl qb4 (Zo (Zo (.two (.one (Zo Xy)) .z))) (sC qzl s0) (fun c a=>((c.1,c.2.1,(),c.2.2.1,c.2.2.2,a.1,()),(a.2,()))) (fun y=>(y.1.1,y.2.1))
abbrev qlk:Mdl:=(ar (Za Yi Yf ZN) [] [] 1 qhw (B:=(List Bool)) (fun b=>(((),()),(b,()))) (fun a=>wo a.1.1 a.1.2.1 a.1.2.2.1))
theorem qxy:Zj 42 qlk:=jf Tryz.func42 rfl qb4 XD (sC qzm s0)
def qtv:Shp:=⟨[qo4,qu6],[]⟩
abbrev qxo:Ctx ((Bool×Int)):=Zn 70 [(27,cn),(35,lw),(38,q53),(39,q56),(40,jah),(41,qi2),(42,qlk)] [au _ 70 [] q8v (C:=((List ByteArray)×Int×Int×(List af)×Int×Int×qL2×(List ak)×Bool×(List (List ak))×Int)) (S:=((List Bool)×Int)) (fun x=>((x.1.2.2.1,(pe3 x.1),x.2.1.1,x.2.1.2.1,x.2.1.2.2.1,(pe3 x.2.1),(pe4 x.2.1),(pe5 x.2.1),(pe6 x.2.1),(pe7 x.2.1),(pf8 x.2.1).1),(x.1.2.1,(pe4 x.1)))) q8u (CE:=(Int×(List af)×Int×Int×qL2×(List ak)×Bool×(List (List ak))×Int)) (E:=(List Bool)) (fun c e=>(((),e,()),((c.1,c.2.1,c.2.2.1,(pe3 c),(pe4 c),(pe5 c),(pe6 c),(pe7 c),(pf8 c),()),()))) (fun c=>(c.2.2.1,(pe3 c),(pe4 c),(pe5 c),(pe6 c),(pe7 c),(pf8 c).1,(pf8 c).2.1,(pf8 c).2.2)) (fun{R} c a nx dn rt=>si c.1 c.2.1 c.2.2.1 (pe3 c) (pe4 c) (pe5 c) (pe6 c) (pe7 c) (pf8 c).1 (pf8 c).2.1 (pf8 c).2.2 a.1 a.2 nx dn rt)] XJ qtv (fun x=>(x.1.1,x.1.2.1))
theorem qxm:Zk qxo:=Zl (mC ca (mC wv (mC jfu (mC jfy (mC jhs (mC qu2 (mC qxy m0)))))))
theorem jbq:a8 Tryz.prog qxo 0 (lc 0 Tryz.f12 4863):=lp rfl qxm .z s0 (fun c a=>(((),a.1,c.1,c.2.1,a.2,()),((c.2.2.1,(pe3 c),(pe4 c),(pe5 c),(pe6 c),(pe7 c),(pf8 c).1,(pf8 c).2.1,(pf8 c).2.2,()),()))) (fun y=>((y.2.1.1,y.2.1.2.1,y.2.1.2.2.1,(pe3 y.2.1),(pe4 y.2.1),(pe5 y.2.1),(pe6 y.2.1),(pe7 y.2.1),(pf8 y.2.1).1),y.1.2.1))
abbrev qxn:Mdl:=(ar (Za ZS ZD Zr) [] [] 2 qtv (B:=(Bool×Int)) (fun b=>((b.1,b.2,()),(()))) (fun a=>qax a.1.1 a.1.2.1 a.1.2.2.1))
theorem q8y:Zj 12 qxn:=jf Tryz.func12 rfl qxm (Zo (Zo (Zo (Zo (Zo (Zo XC)))))) (sC jbq s0)
abbrev qwr:Ctx (Bool):=Zn 76 [(43,qdo),(44,qr1),(45,qn6),(46,qk2),(47,bh)] [au _ 76 [] q79 (C:=((List ByteArray)×qL1×(List aq)×Int×Int×(List af)×Int×Int)) (S:=(qL1×Int)) (fun x=>((x.1.1,(pe3 x.1),(pe4 x.1),(pe5 x.1),x.2.1.1,x.2.1.2.1,x.2.1.2.2.1,(pe3 x.2.1)),(x.1.2.2.1,(pe6 x.1)))) q78 (CE:=qL1) (E:=qL1) (fun c e=>((e,c,()),(()))) (fun c=>c.2.1) (fun{R} c a nx dn rt=>ri c.1 c.2.1 c.2.2.1 (pe3 c) (pe4 c) (pe5 c) (pe6 c) (pf7 c) a.1 a.2 nx dn rt)] [.tmp 8] qzz (fun x=>x.1.1)
theorem qwp:Zk qwr:=Zl (mC qf4 (mC qwt (mC qte (mC qpx (mC be m0)))))
theorem ja2:a8 Tryz.prog qwr 0 (lc 0 Tryz.f13 607):=lp rfl qwp .z s0 (fun c a=>((c.1,(),a.1,c.2.1,c.2.2.1,(pe3 c),a.2,()),(((pe4 c),(pe5 c),(pe6 c),(pf7 c),()),()))) (fun y=>(y.1.2.1,y.1.1))
abbrev qwq:Mdl:=(ar (Zb Zw ZD ZV (.d false qoe.ty)) [] [] 1 qzz (B:=Bool) (fun b=>((b,()),(()))) (fun a=>qar a.1.1 a.1.2.1 a.1.2.2.1 (pe3 a.1)))
theorem q8a:Zj 13 qwq:=jf Tryz.func13 rfl qwp (Zo (Zo (Zo XC))) (sC ja2 s0)
abbrev yt:Ctx (Bool):=Zn 165 [(4,qtz),(5,q00),(6,qtp),(7,rb),(8,qwf),(9,q23),(10,qpi),(11,q9z),(12,qxn),(13,qwq)] [au _ 165 [] q2p (C:=(qL1×Int×Int×(List af)×Int×Int×Int×Int×Bool×Int×Int×Int)) (S:=(Int×(List ag))) (fun x=>((x.1.2.1,(pe5 x.1),x.2.1.1,x.2.1.2.1,x.2.1.2.2.1,(pe3 x.2.1),x.2.2.1.1,x.2.2.1.2.1,x.2.2.1.2.2.1,(pe3 x).1,(pe3 x).2.1,(pe3 x).2.2.1),((pe6 x.1),(pe4 x)))) q2o (CE:=(qL1×Int×(List af)×Int×Int×Int×Int×Bool×Int×Int×Int)) (E:=(List ag)) (fun c e=>(((),c.1,(),(),(),()),((c.2.1,c.2.2.1,(pe3 c),(pe4 c),()),((pe5 c),(pe6 c),(pe7 c),()),((pf8 c).1,(pf8 c).2.1,(pf8 c).2.2,()),e,()))) (fun c=>(c.1,c.2.2.1,(pe3 c),(pe4 c),(pe5 c),(pe6 c),(pe7 c),(pf8 c).1,(pf8 c).2.1,(pf8 c).2.2.1,(pf8 c).2.2.2)) (fun{R} c a nx dn rt=>ul c.1 c.2.1 c.2.2.1 (pe3 c) (pe4 c) (pe5 c) (pe6 c) (pe7 c) (pf8 c).1 (pf8 c).2.1 (pf8 c).2.2.1 (pf8 c).2.2.2 a.1 a.2 nx dn rt),au _ 165 [] q2r (C:=(qL1×(List ByteArray)×qL1×Int×Int×(List af)×Int×Int×Int×Int×Int)) (S:=(Int×(List aq))) (fun x=>((x.1.2.2.1,(pe3 x.1),(pe5 x.1),(pe6 x.1),x.2.1.1,x.2.1.2.1,x.2.1.2.2.1,(pe3 x.2.1),x.2.2.1.1,x.2.2.1.2.1,x.2.2.1.2.2.1),((pe7 x.1),(pe3 x)))) q2q (CE:=(qL1×(List ByteArray)×Int×(List af)×Int×Int×Int×Int×Int)) (E:=(List aq)) (fun c e=>(((),(),c.1,c.2.1,(),()),((c.2.2.1,(pe3 c),(pe4 c),(pe5 c),()),((pe6 c),(pe7 c),(pf8 c),()),e,()))) (fun c=>(c.1,c.2.1,(pe4 c),(pe5 c),(pe6 c),(pe7 c),(pf8 c).1,(pf8 c).2.1,(pf8 c).2.2)) (fun{R} c a nx dn rt=>n8 c.1 c.2.1 c.2.2.1 (pe3 c) (pe4 c) (pe5 c) (pe6 c) (pe7 c) (pf8 c).1 (pf8 c).2.1 (pf8 c).2.2 a.1 a.2 nx dn rt),qkk _ 165 [] q2t (A:=(qL1×Int×(List af)×Int×Int×Int×Int×Bool×Int×Int×Int)) (fun x=>(x.1.2.1,x.2.1.1,x.2.1.2.1,x.2.1.2.2.1,(pe3 x.2.1),x.2.2.1.1,x.2.2.1.2.1,x.2.2.1.2.2.1,(pe3 x).1,(pe3 x).2.1,(pe3 x).2.2.1)) jd5 (CE:=Unit) (E:=Unit) (fun c e=>((()),(()))) (fun c=>()) (fun{R} c dn rt=>qb6 c.1 c.2.1 c.2.2.1 (pe3 c) (pe4 c) (pe5 c) (pe6 c) (pe7 c) (pf8 c).1 (pf8 c).2.1 (pf8 c).2.2 dn rt)] XG qzz (fun x=>x.1.1)
theorem yr:Zk yt:=Zl (mC q6h (mC jby (mC q5r (mC rf (mC q73 (mC jcv (mC q11 (mC jgu (mC q8y (mC q8a m0))))))))))
theorem q6f:a8 Tryz.prog yt 1 (lc 2 Tryz.f3 2490367):=lp rfl yr .z s0 (fun c a=>(((),(),c.1,c.2.1,(),c.2.2.1,(pe3 c),a.1,()),(((pe4 c),(pe5 c),(pe6 c),(pe7 c),()),((pf8 c).1,(pf8 c).2.1,(pf8 c).2.2,()),a.2,()))) (fun y=>((y.1.2.2.1,(pe3 y.1),y.2.1.1,y.2.1.2.1,y.2.1.2.2.1,(pe3 y.2.1),y.2.2.1.1,y.2.2.1.2.1,y.2.2.1.2.2.1),(pe3 y)))
theorem q6e:a8 Tryz.prog yt 0 (lc 0 Tryz.f3 77823):=lp rfl yr .z s0 (fun c a=>(((),c.1,(),(),(),c.2.1,a.1,()),((c.2.2.1,(pe3 c),(pe4 c),(pe5 c),()),((pe6 c),(pe7 c),(pf8 c).1,()),((pf8 c).2.1,(pf8 c).2.2.1,(pf8 c).2.2.2,()),a.2,()))) (fun y=>((y.1.2.1,y.2.1.1,y.2.1.2.1,y.2.1.2.2.1,(pe3 y.2.1),y.2.2.1.1,y.2.2.1.2.1,y.2.2.1.2.2.1,(pe3 y).1,(pe3 y).2.1,(pe3 y).2.2.1),(pe4 y)))
theorem q6g:a8 Tryz.prog yt 2 (jc Tryz.f3 4095):=jn rfl yr (Zo (.two XB (Zo (Zo XD)))) (sC q6e (sC q6f s0)) (fun c=>(((),c.1,(),(),()),((c.2.1,c.2.2.1,(pe3 c),(pe4 c),()),((pe5 c),(pe6 c),(pe7 c),()),((pf8 c).1,(pf8 c).2.1,(pf8 c).2.2,()),()))) (fun y=>((),()))
abbrev q85:Mdl:=(ar (Ze ZS) [] [] 1 qzz (B:=Bool) (fun b=>((b,()),(()))) (fun a=>qif a.1.1))
theorem q2u:Zj 3 q85:=jf Tryz.func3 rfl yr (Zo (Zo (Zo (Zo (Zo (Zo (Zo (Zo (Zo (Zo (Zo (.s 2)))))))))))) (sC q6g s0)
end
end Go.Proofs.YtocndcbobdnagaaGreatDoor
