/-
  ptree.Text of a row of two activities.
-/
import Derived.Test.YtocndcbobdnagaaGreatDoorZ3Kw
set_option linter.all false
namespace Go.Proofs.YtocndcbobdnagaaGreatDoor
open Go.RowKit Go.K Go.M Go.Sort
theorem q3c(w:World)(o:Obj):w.heap.size<(w.alloc o).heap.size:=by
 show w.heap.size<(w.heap.push o).size;simp
set_option maxHeartbeats 4000000 in
set_option maxRecDepth 1000000 in
theorem jwk(s1 s2:List UInt8)(s0:ByteArray)(g o c:Nat)(a1 a2:Option Addr)(e1 e2:Nat)(w:World)(h1:s1.length<=100)(h2:s2.length<=100)(hg:g<w.heap.size)
  (hV:∀W,Below w.heap.size w W->Calls Tryz.prog 69 #[.agg #[.int .i64 3, .string s0, .slice (some ⟨g,o,none⟩) 2 c]] W fun e w' =>e= .returned (.bool true)/\Below W.heap.size W w')
  (hc:w.cell? ⟨g,o+0,none⟩=some (.int .i64 1)/\w.cell? ⟨g,o+1,none⟩=some (.string ⟨s1.toArray⟩)/\w.cell? ⟨g,o+2,none⟩=some (.slice a1 0 e1)/\w.cell? ⟨g,o+3,none⟩=some (.int .i64 1)/\w.cell? ⟨g,o+4,none⟩=some (.string ⟨s2.toArray⟩)/\w.cell? ⟨g,o+5,none⟩=some (.slice a2 0 e2)):
  Calls Tryz.prog 17 #[.agg #[.int .i64 3, .string s0, .slice (some ⟨g,o,none⟩) 2 c]] w fun e w' =>e= .returned (.tuple #[.string ⟨(qur s1 s2 2++[41]).toArray⟩, .int .i64 0])/\Below w.heap.size w w' :=by
 have t63:=Tryz.underlying63;have a63:=Tryz.isAgg63;have z63:=Tryz.sizeOf63;have v63:=Tryz.zeroValue63;have t3:=Tryz.underlying3;have a3:=Tryz.isAgg3;have z3:=Tryz.sizeOf3;have v3:=Tryz.zeroValue3;have t9:=Tryz.underlying9;have a9:=Tryz.isAgg9;have z9:=Tryz.sizeOf9;have v9:=Tryz.zeroValue9;have t61:=Tryz.underlying61;have a61:=Tryz.isAgg61;have z61:=Tryz.sizeOf61;have v61:=Tryz.zeroValue61;have t138:=Tryz.underlying138;have a138:=Tryz.isAgg138;have z138:=Tryz.sizeOf138;have v138:=Tryz.zeroValue138;have t28:=Tryz.underlying28;have a28:=Tryz.isAgg28;have z28:=Tryz.sizeOf28;have v28:=Tryz.zeroValue28;have hL:∀o,Below w.heap.size w (w.alloc o):=fun o=>(HX _ w).alloc (Wg _) o
 go_enter Tryz.func17,Tryz.ntmps17
 go_wp2_with (go_at_call 69;refine(hV _ (hL _)).mono ?_)
 rintro e W1 ⟨rfl,b1⟩;have k1:=(b1.block w.heap.size (q3c w _)).trans (jcz w _);have m0:W1.cell? ⟨w.heap.size,0,none⟩=some (.int .i64 3):=by simp[World.cell?,k1]
 have m1:W1.cell? ⟨w.heap.size,1,none⟩=some (.string s0):=by simp[World.cell?,k1]
 have m2:W1.cell? ⟨w.heap.size,2,none⟩=some (.slice (some ⟨g,o,none⟩) 2 c):=by simp[World.cell?,k1]
 have hb1:Below w.heap.size w W1:=(hL _).trans (b1.mono (Nat.le_of_lt (q3c w _)));have hg1:g<W1.heap.size:=WL hg hb1.size;have hL1:∀o,Below W1.heap.size W1 (W1.alloc o):=fun o=>(HX _ W1).alloc (Wg _) o
 have hcw:∀i u z,w.cell? ⟨g,o+i,none⟩=some u->(W1.alloc z).cell? ⟨g,o+i,none⟩=some u:=fun i u z h=>((hL1 z).cell (p:=⟨g,o+i,none⟩) hg1).trans ((hb1.cell (p:=⟨g,o+i,none⟩) hg).trans h)
 obtain⟨c0,c1,c2,c3,c4,c5⟩:=hc;have hcs:=fun z=>And.intro (hcw _ _ z c0) (And.intro (hcw _ _ z c1) (And.intro (hcw _ _ z c2) (And.intro (hcw _ _ z c3) (And.intro (hcw _ _ z c4) (hcw _ _ z c5)))))
 have hfb:=Lib.IsBuilderF.of (Lib.fresh_isBuilder 138 5 W1);have hlt:w.heap.size<W1.heap.size:=WL (q3c w _) b1.size;have n0:=fun z=>((hL1 z).cell (p:=⟨w.heap.size,0,none⟩) hlt).trans m0
 have n1:=fun z=>((hL1 z).cell (p:=⟨w.heap.size,1,none⟩) hlt).trans m1
 have n2:=fun z=>((hL1 z).cell (p:=⟨w.heap.size,2,none⟩) hlt).trans m2
 clear k1 b1 hcw c0 c1 c2 c3 c4 c5
 go_wp2_with (go_at_call 70;refine(jz9 W1.heap.size W1.heap.size s1 s2 s0 g o c a1 a2 e1 e2 _ hfb h1 h2 (Nat.le_of_lt (q3c W1 _)) hg1 (hcs _)).mono ?_)
 rintro e W2 ⟨rfl,q2,b2⟩;have hb2:Below w.heap.size w W2:=hb1.trans ((((hL1 _).trans b2)).mono hb1.size);have hlen:(Lib.byteCells (qur s1 s2 2++[41])).length<=300:=by simp[Lib.byteCells_length,qur];omega
 have hS2:W1.heap.size<=W2.heap.size:=((hL1 _).trans b2).size;clear hcs hfb;generalize hl:qur s1 s2 2++[41]=l at q2 hlen
 go_wp2_with (first|(go_at_call 71;refine(zer W1.heap.size W1.heap.size _ _ q2).mono ?_;rintro e w' ⟨rfl,hw⟩;rw[hw])|(go_at_call 72;refine(jse W1.heap.size W1.heap.size l _ q2 hS2).mono ?_))
 rintro e W3 ⟨rfl,_,b3,_⟩
 go_wp2
 go_ret2
 subst hl;exact⟨rfl,hb2.trans (b3.mono hb1.size)⟩
theorem j90{f:FuncId}{fn:Func}(hf:Tryz.prog.funcs[f]? =some fn)(hname:(fn.name== "runtime.NumGoroutine")=false)(hb:fn.body.isNone=false){l:ShL}{m:l.den×na []->Option (ByteArray×Int)}
  (h:∀a b,m a=some b->∀(U:Nat->Prop) (w:World) (J:Pl),HR U w J (bt []) (vw []) w J->(∀T,J T=none)->∀vs:List Value,gf (gr U (vw []) w J) (l.enc a.1) vs->Calls Tryz.prog f vs.toArray w fun e w' =>e= .returned (.tuple #[.string b.1, .int .i64 b.2])/\Below w.heap.size w w'):
  MdlOK Tryz.prog f (ar l [] [] 2 ⟨[(0, .d true .str),(1, .d true (.int .i64))],[]⟩ (B:=ByteArray×Int) (fun b=>((b.1,b.2,()),())) m):=by
 refine⟨⟨fn,hf,hname,hb⟩,fun a b hm U w J hHR vs hvs=> ?_,q4l,fun a b _=>qyj (by rfl) a b,fun _ _ _ _ h=>h⟩;have hJ:∀T,J T=none:=fun T=>by
  cases hq:J T with
  |none=>rfl
  |some p=>
   obtain⟨v,hv⟩:=hHR.dom T p hq;have hv:vw [] T=some v:=hv;rw[jgd]at hv;cases hv
 refine(h a b hm U w J hHR hJ vs hvs).mono ?_;rintro e w' ⟨rfl,hB⟩;refine⟨_,J,rfl,⟨hHR.inj,hHR.dom,fun T v hv=> ?_,fun T g o hT=> ?_,hB.os,hB.tape,hB.output,hB.size,fun k hk _=>hB.block k hk,fun _ _=>rfl,fun t g o _ ht=> ?_,hHR.ulow,hHR.tb0⟩,[_,_],rfl,_,[_],rfl,rfl,_,[],rfl,rfl,rfl⟩
 ·have hv:vw [] T=some v:=hv;rw[jgd]at hv;cases hv
 ·rw[hJ]at hT;cases hT
 ·rw[hJ]at ht;cases ht
abbrev juh:Type:=(Int×ByteArray×Unit)×Unit
def jal:Ty:= .tree (.cons (.int .i64) (.cons .str .nil)) .nil
def q6w(s:ByteArray):Tre juh:=⟨((1,s,()),()),[]⟩
def jo0:Tre juh:=⟨((3,⟨#[]⟩,()),()),[q6w ⟨#[97]⟩,q6w ⟨#[98]⟩]⟩
def bEq(a b:ByteArray):Bool:=a.data.toList==b.data.toList
def jpb:Tre juh->Option (ByteArray×Int)
 |⟨((k,s,_),_),[⟨((k1,s1,_),_),[]⟩,⟨((k2,s2,_),_),[]⟩]⟩=>
  bif decide (k=3)&&(decide (k1=1)&&(decide (k2=1)&&(bEq s ⟨#[]⟩&&(bEq s1 ⟨#[97]⟩&&bEq s2 ⟨#[98]⟩))))then some (⟨(qur [97] [98] 2++[41]).toArray⟩,0)else none
 |_=>none
theorem jp0{a b:ByteArray}(h:bEq a b=true):a=b:=by
 cases a with|mk a=>cases b with|mk b=>
  have h:a.toList=b.toList:=by simpa[bEq]using h
  rw[Array.toList_inj.1 h]
theorem jrv{t:Tre juh}{b:ByteArray×Int}(h:jpb t=some b):t=jo0/\b=(⟨(qur [97] [98] 2++[41]).toArray⟩,0):=by
 unfold jpb at h;split at h
 ·obtain⟨hc,hh⟩:=ai h;simp only[Wc,WH]at hc;obtain⟨rfl,rfl,rfl,h1,h2,h3⟩:=hc;rw[jp0 h1,jp0 h2,jp0 h3];exact⟨rfl,(Kp hh).symm⟩
 ·cases h
theorem j0p{m:(ShL.den (.cons (.d false jal) .nil))×na []->Option (Shp.den ⟨[(0, .d true .bool)],[]⟩)}(hV:MdlOK Tryz.prog 69 (ar (.cons (.d false jal) .nil) [] [] 1 ⟨[(0, .d true .bool)],[]⟩ (fun b=>b) m))(hm:m ((jo0,()),())=some ((true,()),())):
  MdlOK Tryz.prog 17 (ar (.cons (.d false jal) .nil) [] [] 2 ⟨[(0, .d true .str),(1, .d true (.int .i64))],[]⟩ (B:=ByteArray×Int) (fun b=>((b.1,b.2,()),())) (fun a=>jpb a.1.1)):=by
 refine j90 Tryz.func17 (by kernel_rfl) (by kernel_rfl) fun a b hma U w J hHR hJ vs hvs=> ?_
 obtain⟨⟨t,_⟩,_⟩:=a;obtain⟨rfl,rfl⟩:=jrv (show jpb t=some b from hma);have hvs0:=hvs;obtain⟨v,r,rfl,hv,hr⟩:=hvs;have hr:r=[]:=hr;subst hr;obtain⟨l,rfl,hl,_⟩:=hv;obtain⟨v1,l,rfl,hv1,hl⟩:=hl;obtain⟨v2,l,rfl,hv2,hl⟩:=hl;obtain⟨v3,l,rfl,hv3,hl⟩:=hl;have hl:l=[]:=hl;subst hl;have hv1:v1= .int .i64 3:=hv1;have hv2:v2= .string ⟨#[]⟩:=hv2;subst hv1 hv2;have hlow:∀W,Below w.heap.size w W->Low w (YY (da J) U false) W (YY (da J) U false):=fun W hW=>⟨hW.size,fun _ _ h=>h,fun k hk _=>hW.block k hk⟩
 have hV2:∀W,Below w.heap.size w W->Calls Tryz.prog 69 #[.agg #[.int .i64 3, .string ⟨#[]⟩,v3]] W fun e w' =>e= .returned (.bool true)/\Below W.heap.size W w' :=fun W hW=>by
  have htb:Tbo W J:=fun g c hc=>by
   obtain⟨⟨e,f,z1⟩,z2⟩:=hHR.tb g c hc;exact⟨⟨e,f,(hW.block g (W4.1 z1).1).trans z1⟩,z2⟩
  have hHR2:HR U W J (bt []) (vw []) W J:=by
   refine⟨hHR.inj,hHR.dom,fun T v hv=> ?_,fun T g o hT=> ?_,rfl,rfl,rfl,Wg _,fun _ _ _=>rfl,fun _ _=>rfl,fun t g o _ ht=> ?_,fun b hb=>WL (hHR.ulow b hb) hW.size,htb⟩
   ·rw[jgd]at hv;cases hv
   ·rw[hJ]at hT;cases hT
   ·rw[hJ]at ht;cases ht
  refine(hV.run ((jo0,()),()) ((true,()),()) hm U W J hHR2 [.agg #[.int .i64 3, .string ⟨#[]⟩,v3]] ⟨_,[],rfl,⟨[.int .i64 3, .string ⟨#[]⟩,v3],rfl,⟨_,_,rfl,rfl,_,_,rfl,rfl,_,[],rfl,Ty.C_low (hlow W hW) (.slice jal) _ 0 _ hv3,rfl⟩,?_⟩,rfl⟩).mono ?_
  ·assumption
  ·rintro e w' ⟨v,J',rfl,hS,hv⟩;have hv:v= .bool true:=hv;subst hv;exact⟨rfl,hS.os,hS.tape,hS.output,hS.size,fun k hk=>hS.blk k hk (fun T o h=>by rw[hJ]at h;cases h)⟩
 obtain⟨a,c,rfl,_,_,hc⟩:=hv3;obtain⟨g,o,rfl,hg,_,hcell⟩:=hc (Nat.zero_lt_succ _);have hat:∀i (hi:i<2) (t:ByteArray),List.getD (α:=Tre juh) [q6w ⟨#[97]⟩,q6w ⟨#[98]⟩] i jo0=q6w t->w.cell? ⟨g,o+(i*3+0),none⟩=some (.int .i64 1)/\w.cell? ⟨g,o+(i*3+1),none⟩=some (.string t)/\∃a e,w.cell? ⟨g,o+(i*3+2),none⟩=some (.slice a 0 e):=fun i hi t ht=>by
  have hcell2:∀f,f<3->∃u,w.cell? ⟨g,o+(i*3+f),none⟩=some u/\Ty.C w (YY (da J) U false) jal (q6w t) f u:=fun f hf=>by
   obtain⟨u,hu,_,hC⟩:=hcell i f hi hf;refine⟨u,hu,?_⟩;rw[<-ht];have e:List.getD (α:=Tre juh) [q6w ⟨#[97]⟩,q6w ⟨#[98]⟩] i jo0=List.getD (α:=jal.den) [q6w ⟨#[97]⟩,q6w ⟨#[98]⟩] i jal.dft:=by
    have:i=0\/i=1:=by omega
    rcases this with rfl|rfl<;>rfl
   rw[e];exact hC
  obtain⟨u0,q0,p0⟩:=hcell2 0 (by omega);obtain⟨u1,q1,p1⟩:=hcell2 1 (by omega);obtain⟨u2,q2,p2⟩:=hcell2 2 (by omega);have p0:u0= .int .i64 1:=(q86 (l:= .cons (.int .i64) (.cons .str .nil)) (m:= .nil) (x:=q6w t)).1 p0;have p1:u1= .string t:=(q86 (l:= .cons (.int .i64) (.cons .str .nil)) (m:= .nil) (x:=q6w t)).1 p1;have p2:Ty.C w (YY (da J) U false) (.slice jal) [] 0 u2:=(q86 (l:= .cons (.int .i64) (.cons .str .nil)) (m:= .nil) (x:=q6w t)).1 p2;obtain⟨a,e,p2,_⟩:=p2;exact⟨by rw[q0,p0],by rw[q1,p1],a,e,by rw[q2,p2];rfl⟩
 obtain⟨c0,c1,a1,e1,c2⟩:=hat 0 (by omega) ⟨#[97]⟩ rfl;obtain⟨c3,c4,a2,e2,c5⟩:=hat 1 (by omega) ⟨#[98]⟩ rfl;exact jwk [97] [98] ⟨#[]⟩ g o c a1 a2 e1 e2 w (by decide) (by decide) hg hV2 ⟨c0,c1,c2,c3,c4,c5⟩
end Go.Proofs.YtocndcbobdnagaaGreatDoor
