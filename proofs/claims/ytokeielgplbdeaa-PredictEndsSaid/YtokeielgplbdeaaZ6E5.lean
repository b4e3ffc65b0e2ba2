/-
  Predict: Ends.
-/
import Derived.Test.YtokeielgplbdeaaZ6E4
set_option linter.all false
namespace Go.Proofs.Ytokeielgplbdeaa
open Go.K Go.M
theorem q8y{n:c9}(h:Small n){m:List Int}{most:Int}{σ:p2}{N g:Nat}{nE:List Eg}{c:Mk}(hG:GG n m most.toNat σ N g nE c)(hv:de n=true)(h1:aw n m most=some (gEs c nE,(g:Int),(N:Int),0))(hr:∃x,aq (gEs c nE) (g:Int) (N:Int)=some (x,true)):ge n m most=some (0,tc (ph c nE) g n.2.1.length):=by
 have hV:=qgg h;have htr:=hG.tr;rw[hv]at hV;obtain⟨x,hx⟩:=hr;have hL1:=qsh hG n.2.1.length (by omega);unfold ge;simp(disch:=omega)only[hV,h1,hx,hL1,Bool.not_true,rs]
theorem q3y{n:c9}{m:List Int}{M:Nat}{σ:p2}{N g:Nat}{nE:List Eg}{c:Mk}(h:GG n m M σ N g nE c){x:Int}(hx:x∈tc (ph c nE) g n.2.1.length){l:List Eg}(hl:IsW (fun e=>e∈nE) 0 l g):x∈px l:=by
 obtain⟨t,rfl,ht,hno⟩:=q5z.1 hx;refine Classical.byContradiction fun hn=>hno ?_
 have h1:=(h.path hl h.cg).1;have key:∀(l:List Eg) (i j:Nat),IsW (fun e=>e∈ph c nE) i l j→(∀e∈l,¬e.2.2=t)→IsW (EN t (ph c nE)) i l j:=fun l=>by
  induction l with
  |nil=>intro i j h _;exact h
  |cons e l ih=>exact fun i j ⟨a1,a2,a3⟩ h=>⟨a1,⟨a2,h e List.mem_cons_self⟩,ih _ _ a3 fun e' he' =>h e' (List.mem_cons_of_mem _ he')⟩
 exact⟨l,key l 0 g h1 fun e he het=>hn (List.mem_map.2 ⟨e,he,by rw[het]⟩)⟩
theorem q8g{l:List Int}(hl:l.length≤1000000){x:Int}(h:x∈l):d8 l x=some true:=by
 rw[qx4 l hl x];congr 1;unfold jk6;exact List.any_eq_true.2 ⟨x,h,decide_eq_true rfl⟩
theorem qud{m:List Int}{ts:List af}{fast slow en must:List Int}{g:Int}(a b:Int)(b2:List ai)(cc d e f:Int)(hf:fast.length≤1000)(hs:slow.length≤1000)(hm:must.length≤1000)(h1:∀x∈must,x∈fast)(h2:g=0→∀x∈must,x∈slow)(o:Bool):x8 m ts fast slow g en must (must.length:Int) a b2 b cc d e o 0=some (.inl ()):=by
 refine iw (fun k:Nat=>(k:Int)) must.length (bm (by omega)) _ (fun k hk=> ?_) ?_ _ rfl
 ·have hx:=az 0 hk;have e1:=q8g (l:=fast) (by omega) (h1 _ hx);by_cases hg:g=0
  ·have e2:=q8g (l:=slow) (by omega) (h2 hg _ hx);simp(disch:=omega)only[i4,e1,e2,Bool.not_true,aj,rs]
  ·simp(disch:=omega)only[i4,e1,decide_eq_false hg,Bool.not_true,aj,rs]
 ·simp(disch:=omega)only[i4,rs]
theorem jbt{n:c9}{m:List Int}{M:Nat}{σ:p2}{N g:Nat}{nE:List Eg}{c:Mk}(h:GG n m M σ N g nE c){ts:List af}(ho:¬Op ts (ph c nE)){l:List Eg}(hl:IsW (fun e=>e∈nE) 0 l g):qpc ts l=false:=by
 unfold qpc;refine List.any_eq_false.2 fun e he hop=>ho ((h.op ts).2 ⟨e,(yp hl e he).1,(h.leads _).2 (yp hl e he).2.2, .inl hop⟩)
theorem ja5{n:c9}(h:Small n){m:List Int}(hl:m.length≤1000)(htr:n.2.1.length≤20){ts:List af}(hts:ts.length≤1000){most:Int}(hmost:most≤60)(hr:Res n m ts most)(ha:wy=some true)(hb:qb7 n m ts=some true):i9 n m ts most=some true:=by
 unfold i9;cases hr with
 |err e he h1 h2=>
  have e1:=qhh he h1;have e2:=q54 he h1;have e3:=qu2 he h1;simp(disch:=omega)only[ha,hb,e1,e2,e3,decide_eq_false he,Bool.not_true,Bool.not_false,rs];rfl
 |none M g N h1 hr h2=>
  have e1:=qfr h1 hr;have e2:=q10 h1 hr;have e3:=qso h1 hr;simp(disch:=omega)only[ha,hb,e1,e2,e3,Bool.not_true,Bool.not_false,rs];rfl
 |ok σ N g nE c hG hc hv hm ht h1 hr h2=>
  have hg:=qq2 h htr hl hts most;rw[ht]at hg;have hg:bc n m ts most=aw n m most:=hg;have hmu:=q8y h hG hv (hg.symm.trans h1) hr;have hF:=qx6 h hv;have hN:N≤60:=by have:=hG.ok.sp.len;rw[hG.eN];omega
  obtain⟨B,hB⟩:=qwm hG hc ht;have e1:=qjg hG ht h1 hr hB;have hmlen:=qh7 (ph c nE) g n.2.1.length;have hfin:cp σ g=qw0 n.1 n.2.2.2.1:=hG.fin;have hel:=(ma.1 (hG.mark hG.gl)).1;have hNn:1≤n.1∧n.1≤40:=by
   unfold de at hv;simp only[Bool.and_eq_true,decide_eq_true_eq]at hv;exact hv.1.1.1.1
  have hee:bv (cp σ g) (cp σ g)=some true:=by rw[qx5 _ _ (by omega),decide_eq_true rfl]
  rw[←hfin]at hF;have htl:=gq ht;have hta:c8 ts ts.length=true:=by rw[htl];exact ht
  have fst:∀{dF:pz} {v:xr},DistOK σ N g nE c n.2.1.length ts false dF→dF 0=some v→∃l,ff n m ts most=some (0,px l)∧(px l).length≤60∧yz n m (px l)=some (cp σ g,((px l).length:Int),0)∧rq (px l) ts=some (v.1,zx (i5 ts true) l,qpc ts l,true)∧∀x∈tc (ph c nE) g n.2.1.length,x∈px l:=fun hd h0=>by
   obtain⟨l,hw,a1,_⟩:=q5e hG ht h1 hr h2 hd h0;have hb:=hd.bd _ _ h0;have hlen:(px l).length=l.length:=List.length_map _;have hs:=hw.stp;have hlen60:l.length≤60:=by omega
   refine⟨l,a1,by omega,?_,?_,fun x hx=>q3y hG hx hw.wk⟩
   ·rw[hlen];exact q9e hG h hv l (by omega) hw.wk
   ·rw[q0a hta l (by omega) fun e he=>by rw[htl];exact(hG.good e (yp hw.wk e he).1).t,hw.wt]
  cases hB with
  |opn dF v hF' h0 ho h3 h4=>
   obtain⟨l,f1,f2,f3,f4,f5⟩:=fst hF' h0;obtain⟨s1,_⟩:=qzy h1 hr h2 h3 h4;have hL0:=qud (m:=m) (ts:=ts) (fast:=px l) (slow:=[]) (en:=cp σ g) (g:=18) n.1 n.2.2.1 n.2.1 n.2.2.2.1 v.1 0 0 (by omega) (by simp) (by omega) f5 (fun h=>by cases h) true;have hT1:gp m ts (px l) [] 18 (tc (ph c nE) g n.2.1.length) (cp σ g) n.1 n.2.1 n.2.2.1 n.2.2.2.1 v.1 0 true=some (.inr true):=by
    unfold gp;simp(disch:=omega)only[kz,f3,f4,hee,hL0,Bool.not_true,Bool.not_false,rs];rfl
   simp(disch:=omega)only[ha,hb,e1,f1,s1,hmu,hF,hT1,Bool.not_true,Bool.not_false,rs];rfl
  |cls dF dS v u hF' h0 ho h3 h4 hS h5=>
   obtain⟨l,f1,f2,f3,f4,f5⟩:=fst hF' h0;obtain⟨l',hw',s1,_⟩:=qva hG ht h1 hr h2 h3 h4 hS h5;have hb' :=hS.bd _ _ h5;have hlen' :(px l').length=l'.length:=List.length_map _;have hs' :=hw'.stp;have hl60:l'.length≤60:=by omega
   have s3:=q9e hG h hv l' (by omega) hw'.wk;rw[←hlen']at s3;have s4:=q0a hta l' (by omega) fun e he=>by rw[htl];exact(hG.good e (yp hw'.wk e he).1).t
   rw[hw'.wt,jbt hG ho hw'.wk]at s4;have hle:=q7e hG ht ho hF' hS h0 h5;have hL0:=qud (m:=m) (ts:=ts) (fast:=px l) (slow:=px l') (en:=cp σ g) (g:=0) n.1 n.2.2.1 n.2.1 n.2.2.2.1 v.1 u.1 0 (by omega) (by omega) (by omega) f5 (fun _ x hx=>q3y hG hx hw'.wk) false;have hT1:gp m ts (px l) (px l') 0 (tc (ph c nE) g n.2.1.length) (cp σ g) n.1 n.2.1 n.2.2.1 n.2.2.2.1 v.1 u.1 false=some (.inr true):=by
    unfold gp;simp(disch:=omega)only[kz,f3,f4,hee,hL0,s3,s4,decide_eq_true hle,Bool.not_true,Bool.not_false,rs]
   simp(disch:=omega)only[ha,hb,e1,f1,s1,hmu,hF,hT1,Bool.not_true,Bool.not_false,rs];rfl
theorem jp3(n:c9)(m:List Int)(ts:List af)(most:Int):i9 n m ts most=some true:=by
 obtain⟨b,hb,hf⟩:=jfr n m ts;cases b with
 |false=>
  unfold i9;simp(disch:=omega)only[qqj,hb,Bool.not_true,Bool.not_false,rs]
 |true=>
  by_cases h1:60<most
  ·unfold i9;simp(disch:=omega)only[qqj,hb,Bool.not_true,Bool.not_false,rs]
  ·obtain⟨a1,a2,a3,a4⟩:=jfs (hf rfl);exact ja5 a1 a3 a2 a4 (by omega) (res a1 a2 a3 a4 (by omega)) qqj hb
end Go.Proofs.Ytokeielgplbdeaa
