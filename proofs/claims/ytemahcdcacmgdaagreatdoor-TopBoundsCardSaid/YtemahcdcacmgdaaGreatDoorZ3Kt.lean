/-
  ptree.Text of a row of two activities.
-/
import Derived.Test.YtemahcdcacmgdaaGreatDoorZ3Kw
set_option linter.all false
namespace Go.Proofs.YtemahcdcacmgdaaGreatDoor
open Go.RowKit Go.K Go.M Go.Sort
theorem qwz(w:World)(o:Obj):w.heap.size<(w.alloc o).heap.size:=by
 show w.heap.size<(w.heap.push o).size;simp
set_option maxHeartbeats 4000000 in
set_option maxRecDepth 1000000 in
theorem jq9(s1 s2:List UInt8)(s0:ByteArray)(g o c:Nat)(a1 a2:Option Addr)(e1 e2:Nat)(w:World)(h1:s1.length≤100)(h2:s2.length≤100)(hg:g<w.heap.size)
  (hV:∀W,Below w.heap.size w W→Calls Tryz.prog 56 #[.agg #[.int .i64 3, .string s0, .slice (some ⟨g,o,none⟩) 2 c]] W fun e w' =>e= .returned (.bool true)∧Below W.heap.size W w')
  (hc:w.cell? ⟨g,o+0,none⟩=some (.int .i64 1)∧w.cell? ⟨g,o+1,none⟩=some (.string ⟨s1.toArray⟩)∧w.cell? ⟨g,o+2,none⟩=some (.slice a1 0 e1)∧w.cell? ⟨g,o+3,none⟩=some (.int .i64 1)∧w.cell? ⟨g,o+4,none⟩=some (.string ⟨s2.toArray⟩)∧w.cell? ⟨g,o+5,none⟩=some (.slice a2 0 e2)):
  Calls Tryz.prog 16 #[.agg #[.int .i64 3, .string s0, .slice (some ⟨g,o,none⟩) 2 c]] w fun e w' =>e= .returned (.tuple #[.string ⟨(qqh s1 s2 2++[41]).toArray⟩, .int .i64 0])∧Below w.heap.size w w' :=by
 have t53:=Tryz.underlying53;have a53:=Tryz.isAgg53;have z53:=Tryz.sizeOf53;have v53:=Tryz.zeroValue53;have t3:=Tryz.underlying3;have a3:=Tryz.isAgg3;have z3:=Tryz.sizeOf3;have v3:=Tryz.zeroValue3;have t9:=Tryz.underlying9;have a9:=Tryz.isAgg9;have z9:=Tryz.sizeOf9;have v9:=Tryz.zeroValue9;have t51:=Tryz.underlying51;have a51:=Tryz.isAgg51;have z51:=Tryz.sizeOf51;have v51:=Tryz.zeroValue51;have t116:=Tryz.underlying116;have a116:=Tryz.isAgg116;have z116:=Tryz.sizeOf116;have v116:=Tryz.zeroValue116;have t32:=Tryz.underlying32;have a32:=Tryz.isAgg32;have z32:=Tryz.sizeOf32;have v32:=Tryz.zeroValue32;have hL:∀o,Below w.heap.size w (w.alloc o):=fun o=>(Below.refl _ w).alloc (Nat.le_refl _) o
 go_enter Tryz.func16,Tryz.ntmps16
 go_wp2_with (go_at_call 56;refine(hV _ (hL _)).mono ?_)
 rintro e W1 ⟨rfl,b1⟩;have k1:=(b1.block w.heap.size (qwz w _)).trans (q68 w _);have m0:W1.cell? ⟨w.heap.size,0,none⟩=some (.int .i64 3):=by simp[World.cell?,k1]
 have m1:W1.cell? ⟨w.heap.size,1,none⟩=some (.string s0):=by simp[World.cell?,k1]
 have m2:W1.cell? ⟨w.heap.size,2,none⟩=some (.slice (some ⟨g,o,none⟩) 2 c):=by simp[World.cell?,k1]
 have hb1:Below w.heap.size w W1:=(hL _).trans (b1.mono (Nat.le_of_lt (qwz w _)));have hg1:g<W1.heap.size:=Nat.lt_of_lt_of_le hg hb1.size;have hL1:∀o,Below W1.heap.size W1 (W1.alloc o):=fun o=>(Below.refl _ W1).alloc (Nat.le_refl _) o
 have hcw:∀i u z,w.cell? ⟨g,o+i,none⟩=some u→(W1.alloc z).cell? ⟨g,o+i,none⟩=some u:=fun i u z h=>((hL1 z).cell (p:=⟨g,o+i,none⟩) hg1).trans ((hb1.cell (p:=⟨g,o+i,none⟩) hg).trans h)
 obtain⟨c0,c1,c2,c3,c4,c5⟩:=hc;have hcs:=fun z=>And.intro (hcw _ _ z c0) (And.intro (hcw _ _ z c1) (And.intro (hcw _ _ z c2) (And.intro (hcw _ _ z c3) (And.intro (hcw _ _ z c4) (hcw _ _ z c5)))))
 have hfb:=Lib.IsBuilderF.of (Lib.fresh_isBuilder 116 5 W1);have hlt:w.heap.size<W1.heap.size:=Nat.lt_of_lt_of_le (qwz w _) b1.size;have n0:=fun z=>((hL1 z).cell (p:=⟨w.heap.size,0,none⟩) hlt).trans m0
 have n1:=fun z=>((hL1 z).cell (p:=⟨w.heap.size,1,none⟩) hlt).trans m1
 have n2:=fun z=>((hL1 z).cell (p:=⟨w.heap.size,2,none⟩) hlt).trans m2
 clear k1 b1 hcw c0 c1 c2 c3 c4 c5
 go_wp2_with (go_at_call 57;refine(juo W1.heap.size W1.heap.size s1 s2 s0 g o c a1 a2 e1 e2 _ hfb h1 h2 (Nat.le_of_lt (qwz W1 _)) hg1 (hcs _)).mono ?_)
 rintro e W2 ⟨rfl,q2,b2⟩;have hb2:Below w.heap.size w W2:=hb1.trans ((((hL1 _).trans b2)).mono hb1.size);have hlen:(Lib.byteCells (qqh s1 s2 2++[41])).length≤300:=by simp[Lib.byteCells_length,qqh];omega
 have hS2:W1.heap.size≤W2.heap.size:=((hL1 _).trans b2).size;clear hcs hfb;generalize hl:qqh s1 s2 2++[41]=l at q2 hlen
 go_wp2_with (first|(go_at_call 58;refine(j63 W1.heap.size W1.heap.size _ _ q2).mono ?_;rintro e w' ⟨rfl,hw⟩;rw[hw])|(go_at_call 59;refine(jmt W1.heap.size W1.heap.size l _ q2 hS2).mono ?_))
 rintro e W3 ⟨rfl,_,b3,_⟩
 go_wp2
 go_ret2
 subst hl;exact⟨rfl,hb2.trans (b3.mono hb1.size)⟩
theorem j2m{f:FuncId}{fn:Func}(hf:Tryz.prog.funcs[f]? =some fn)(hname:(fn.name== "runtime.NumGoroutine")=false)(hb:fn.body.isNone=false){l:ShL}{m:l.den×kd []→Option (ByteArray×Int)}
  (h:∀a b,m a=some b→∀(U:Nat→Prop) (w:World) (σ:Pl),HR U w σ (br []) (vw []) w σ→(∀T,σ T=none)→∀vs:List Value,fj (gr U (vw []) w σ) (l.enc a.1) vs→Calls Tryz.prog f vs.toArray w fun e w' =>e= .returned (.tuple #[.string b.1, .int .i64 b.2])∧Below w.heap.size w w'):
  MdlOK Tryz.prog f (ay l [] [] 2 ⟨[(0, .d true .str),(1, .d true (.int .i64))],[]⟩ (B:=ByteArray×Int) (fun b=>((b.1,b.2,()),())) m):=by
 refine⟨⟨fn,hf,hname,hb⟩,fun a b hm U w σ hHR vs hvs=> ?_,qy6,fun a b _=>qtg (by rfl) a b,fun _ _ _ _ h=>h⟩;have hσ:∀T,σ T=none:=fun T=>by
  cases hq:σ T with
  |none=>rfl
  |some p=>
   obtain⟨v,hv⟩:=hHR.dom T p hq;have hv:vw [] T=some v:=hv;rw[jaw]at hv;cases hv
 refine(h a b hm U w σ hHR hσ vs hvs).mono ?_;rintro e w' ⟨rfl,hB⟩;refine⟨_,σ,rfl,⟨hHR.inj,hHR.dom,fun T v hv=> ?_,fun T g o hT=> ?_,hB.os,hB.tape,hB.output,hB.size,fun k hk _=>hB.block k hk,fun _ _=>rfl,fun t g o _ ht=> ?_,hHR.ulow,hHR.tb0⟩,[_,_],rfl,_,[_],rfl,rfl,_,[],rfl,rfl,rfl⟩
 ·have hv:vw [] T=some v:=hv;rw[jaw]at hv;cases hv
 ·rw[hσ]at hT;cases hT
 ·rw[hσ]at ht;cases ht
abbrev jo3:Type:=(Int×ByteArray×Unit)×Unit
def q4q:Ty:= .tree (.cons (.int .i64) (.cons .str .nil)) .nil
def q0n(s:ByteArray):Tre jo3:=⟨((1,s,()),()),[]⟩
def jjn:Tre jo3:=⟨((3,⟨#[]⟩,()),()),[q0n ⟨#[97]⟩,q0n ⟨#[98]⟩]⟩
def bEq(a b:ByteArray):Bool:=a.data.toList==b.data.toList
def jj1:Tre jo3→Option (ByteArray×Int)
 |⟨((k,s,_),_),[⟨((k1,s1,_),_),[]⟩,⟨((k2,s2,_),_),[]⟩]⟩=>
  bif decide (k=3)&&(decide (k1=1)&&(decide (k2=1)&&(bEq s ⟨#[]⟩&&(bEq s1 ⟨#[97]⟩&&bEq s2 ⟨#[98]⟩))))then some (⟨(qqh [97] [98] 2++[41]).toArray⟩,0)else none
 |_=>none
theorem jkn{a b:ByteArray}(h:bEq a b=true):a=b:=by
 cases a with|mk a=>cases b with|mk b=>
  have h:a.toList=b.toList:=by simpa[bEq]using h
  rw[Array.toList_inj.1 h]
theorem jme{t:Tre jo3}{b:ByteArray×Int}(h:jj1 t=some b):t=jjn∧b=(⟨(qqh [97] [98] 2++[41]).toArray⟩,0):=by
 unfold jj1 at h;split at h
 ·obtain⟨hc,hh⟩:=ai h;simp only[Bool.and_eq_true,decide_eq_true_eq]at hc;obtain⟨rfl,rfl,rfl,h1,h2,h3⟩:=hc;rw[jkn h1,jkn h2,jkn h3];exact⟨rfl,(Option.some.inj hh).symm⟩
 ·cases h
theorem ju1{m:(ShL.den (.cons (.d false q4q) .nil))×kd []→Option (Shp.den ⟨[(0, .d true .bool)],[]⟩)}(hV:MdlOK Tryz.prog 56 (ay (.cons (.d false q4q) .nil) [] [] 1 ⟨[(0, .d true .bool)],[]⟩ (fun b=>b) m))(hm:m ((jjn,()),())=some ((true,()),())):
  MdlOK Tryz.prog 16 (ay (.cons (.d false q4q) .nil) [] [] 2 ⟨[(0, .d true .str),(1, .d true (.int .i64))],[]⟩ (B:=ByteArray×Int) (fun b=>((b.1,b.2,()),())) (fun a=>jj1 a.1.1)):=by
 refine j2m Tryz.func16 (by kernel_rfl) (by kernel_rfl) fun a b hma U w σ hHR hσ vs hvs=> ?_
 obtain⟨⟨t,_⟩,_⟩:=a;obtain⟨rfl,rfl⟩:=jme (show jj1 t=some b from hma);have hvs0:=hvs;obtain⟨v,r,rfl,hv,hr⟩:=hvs;have hr:r=[]:=hr;subst hr;obtain⟨l,rfl,hl,_⟩:=hv;obtain⟨v1,l,rfl,hv1,hl⟩:=hl;obtain⟨v2,l,rfl,hv2,hl⟩:=hl;obtain⟨v3,l,rfl,hv3,hl⟩:=hl;have hl:l=[]:=hl;subst hl;have hv1:v1= .int .i64 3:=hv1;have hv2:v2= .string ⟨#[]⟩:=hv2;subst hv1 hv2;have hlow:∀W,Below w.heap.size w W→Low w (YY (cn σ) U false) W (YY (cn σ) U false):=fun W hW=>⟨hW.size,fun _ _ h=>h,fun k hk _=>hW.block k hk⟩
 have hV2:∀W,Below w.heap.size w W→Calls Tryz.prog 56 #[.agg #[.int .i64 3, .string ⟨#[]⟩,v3]] W fun e w' =>e= .returned (.bool true)∧Below W.heap.size W w' :=fun W hW=>by
  have htb:Tbo W σ:=fun g c hc=>by
   obtain⟨⟨e,f,z1⟩,z2⟩:=hHR.tb g c hc;exact⟨⟨e,f,(hW.block g (Array.getElem?_eq_some_iff.1 z1).1).trans z1⟩,z2⟩
  have hHR2:HR U W σ (br []) (vw []) W σ:=by
   refine⟨hHR.inj,hHR.dom,fun T v hv=> ?_,fun T g o hT=> ?_,rfl,rfl,rfl,Nat.le_refl _,fun _ _ _=>rfl,fun _ _=>rfl,fun t g o _ ht=> ?_,fun b hb=>Nat.lt_of_lt_of_le (hHR.ulow b hb) hW.size,htb⟩
   ·rw[jaw]at hv;cases hv
   ·rw[hσ]at hT;cases hT
   ·rw[hσ]at ht;cases ht
  refine(hV.run ((jjn,()),()) ((true,()),()) hm U W σ hHR2 [.agg #[.int .i64 3, .string ⟨#[]⟩,v3]] ⟨_,[],rfl,⟨[.int .i64 3, .string ⟨#[]⟩,v3],rfl,⟨_,_,rfl,rfl,_,_,rfl,rfl,_,[],rfl,Ty.C_low (hlow W hW) (.slice q4q) _ 0 _ hv3,rfl⟩,?_⟩,rfl⟩).mono ?_
  ·assumption
  ·rintro e w' ⟨v,σ',rfl,hS,hv⟩;have hv:v= .bool true:=hv;subst hv;exact⟨rfl,hS.os,hS.tape,hS.output,hS.size,fun k hk=>hS.blk k hk (fun T o h=>by rw[hσ]at h;cases h)⟩
 obtain⟨a,c,rfl,_,_,hc⟩:=hv3;obtain⟨g,o,rfl,hg,_,hcell⟩:=hc (Nat.zero_lt_succ _);have hat:∀i (hi:i<2) (t:ByteArray),List.getD (α:=Tre jo3) [q0n ⟨#[97]⟩,q0n ⟨#[98]⟩] i jjn=q0n t→w.cell? ⟨g,o+(i*3+0),none⟩=some (.int .i64 1)∧w.cell? ⟨g,o+(i*3+1),none⟩=some (.string t)∧∃a e,w.cell? ⟨g,o+(i*3+2),none⟩=some (.slice a 0 e):=fun i hi t ht=>by
  have hcell2:∀f,f<3→∃u,w.cell? ⟨g,o+(i*3+f),none⟩=some u∧Ty.C w (YY (cn σ) U false) q4q (q0n t) f u:=fun f hf=>by
   obtain⟨u,hu,_,hC⟩:=hcell i f hi hf;refine⟨u,hu,?_⟩;rw[←ht];have e:List.getD (α:=Tre jo3) [q0n ⟨#[97]⟩,q0n ⟨#[98]⟩] i jjn=List.getD (α:=q4q.den) [q0n ⟨#[97]⟩,q0n ⟨#[98]⟩] i q4q.dft:=by
    have:i=0∨i=1:=by omega
    rcases this with rfl|rfl<;>rfl
   rw[e];exact hC
  obtain⟨u0,q0,p0⟩:=hcell2 0 (by omega);obtain⟨u1,q1,p1⟩:=hcell2 1 (by omega);obtain⟨u2,q2,p2⟩:=hcell2 2 (by omega);have p0:u0= .int .i64 1:=(q3g (l:= .cons (.int .i64) (.cons .str .nil)) (m:= .nil) (x:=q0n t)).1 p0;have p1:u1= .string t:=(q3g (l:= .cons (.int .i64) (.cons .str .nil)) (m:= .nil) (x:=q0n t)).1 p1;have p2:Ty.C w (YY (cn σ) U false) (.slice q4q) [] 0 u2:=(q3g (l:= .cons (.int .i64) (.cons .str .nil)) (m:= .nil) (x:=q0n t)).1 p2;obtain⟨a,e,p2,_⟩:=p2;exact⟨by rw[q0,p0],by rw[q1,p1],a,e,by rw[q2,p2];rfl⟩
 obtain⟨c0,c1,a1,e1,c2⟩:=hat 0 (by omega) ⟨#[97]⟩ rfl;obtain⟨c3,c4,a2,e2,c5⟩:=hat 1 (by omega) ⟨#[98]⟩ rfl;exact jq9 [97] [98] ⟨#[]⟩ g o c a1 a2 e1 e2 w (by decide) (by decide) hg hV2 ⟨c0,c1,c2,c3,c4,c5⟩
end Go.Proofs.YtemahcdcacmgdaaGreatDoor
