/-
  Fractions: the operations, by rational numbers.
-/
import Derived.Test.YteljgpepodpebaaGreatZ3F1
set_option linter.all false
namespace Go.Proofs.YteljgpepodpebaaGreat
open Go.K Go.M
def vB(a:ab):Bool:=decide (-1073741824≤a.1)&&(decide (a.1≤1073741824)&&(decide (1≤a.2.1)&&(decide (a.2.1≤1073741824)&&decide (Nat.gcd a.1.natAbs a.2.1.natAbs=1))))
theorem dr{a:ab}:vB a=true↔NF a:=by
 unfold vB;simp only[Bool.and_eq_true,decide_eq_true_eq];exact⟨fun⟨h1,h2,h3,h4,h5⟩=>⟨h1,h2,h3,h4,h5⟩,fun h=>⟨h.n0,h.n1,h.d0,h.d1,h.co⟩⟩
theorem jod(a b:Int)(hb:b.natAbs<9223372036854775807):qoq a b=some (gI a b):=by
 have h:q3y (a,b)=some (.inl (gI a b)):=q32 (step:=fun s:Int×Int=>qci (R:=LR (Int×Int) Int Int) s.1 s.2 (fun a' =>some (.next a')) (fun e=>some (.done e)) (fun r=>some (.ret r))) (fun a b=>by
  by_cases h:b=0
  ·simp(disch:=omega)only[qci,rs];rw[if_pos h]
  ·simp(disch:=omega)only[qci,y8,rs];rw[if_neg h]) _ a b many (by omega) (by unfold many;omega)
 unfold qoq;rw[h];rfl
theorem jx2{a b:Int}(ha:0≤a)(hb:0≤b):gI a b=(Nat.gcd a.natAbs b.natAbs:Int):=by
 have h1:=jg7 (b.natAbs+1) a b (by omega);have h2:=job (b.natAbs+1) a b ha hb;unfold gI;omega
theorem qt7(a:ab):rv a=some (vB a):=by
 unfold rv vB;by_cases h1: -1073741824≤a.1
 ·by_cases h2:a.1≤1073741824
  ·by_cases h3:1≤a.2.1
   ·by_cases h4:a.2.1≤1073741824
    ·rw[lz h1,lz h2,lz h3,lz h4,bk (by omega) (by omega),jod _ _ (by omega),af,jx2 (by omega) (by omega),show(max a.1 (0-a.1)).natAbs=a.1.natAbs by omega];simp only[h1,h2,h3,h4,decide_true,Bool.true_and];refine congrArg some (decide_eq_decide.2 ?_);omega
    ·rw[lz h1,lz h2,lz h3,wd (by omega)];simp[h4]
   ·rw[lz h1,lz h2,wd (by omega)];simp[h3]
  ·rw[lz h1,wd (by omega)];simp[h2]
 ·rw[wd (by omega)];simp[h1]
theorem jok(l:List ab)(hl:l.length≤9223372036854775806):cx l=some (l.any fun a=> !vB a):=by
 have h:=te (step:=fun a=>cf (R:=LR Int Unit Int) l (l.length:Int) a (fun a' =>some (.next a')) (fun e=>some (.done e)) (fun r=>some (.ret r))) l ab.z (fun a=> !vB a) (fun i=>(i:Int)) hl (fun i hi=>by
  unfold cf qk1;simp(disch:=omega)only[qt7,rs];rw[am];cases vB (l.getD i ab.z)<;>rfl) (by unfold cf;simp(disch:=omega)only[rs])
 have h:j6 l (l.length:Int) 0=_:=h;unfold cx fq;rw[h,af,qg2,af,qq4]
theorem jci{α:Type}(l:List α)(p:α→Bool):(!(l.any fun a=> !p a))=l.all p:=by
 rw[List.all_eq_not_any_not]
theorem q7g(l:List ab)(hl:l.length≤9223372036854775806):l4 l=some (l.all vB):=by
 unfold l4;rw[jok l hl,af,jci]
theorem q7f(a b:ab):l4 [a,b]=some (vB a&&vB b):=by
 rw[q7g _ (by simp)];simp
theorem td(l:List ab)(n:Int)(hl:l.length≤9223372036854775806):fj l n=some (decide ((l.length:Int)=n)&&l.all vB):=by
 have h:=te (step:=fun a=>cb (R:=LR Int Unit Int) l (l.length:Int) a (fun a' =>some (.next a')) (fun e=>some (.done e)) (fun r=>some (.ret r))) l ab.z (fun a=> !vB a) (fun i=>(i:Int)) hl (fun i hi=>by
   unfold cb qf0;simp(disch:=omega)only[qt7,rs];rw[am];cases vB (l.getD i ab.z)<;>rfl) (by unfold cb;simp(disch:=omega)only[rs])
 have h:j4 l (l.length:Int) 0=_:=h;unfold fj eu fp;rw[h,af,qg2,af,af,qq4,jci];by_cases e:(l.length:Int)=n
 ·rw[bu e,decide_eq_true e,Bool.true_and]
 ·rw[bg e,decide_eq_false e,Bool.false_and]
theorem jbt(neg:Bool){a b:Int}(ha:0≤a)(ha2:a≤9223372036854775807)(hb:0<b)(hb2:b≤9223372036854775807):qcg neg a b=some (rF (((if neg=true then-a else a:Int):Rat)/(b:Rat))):=by
 obtain⟨G,u,v,hG,hu,hv,hc,hv0,hg1,_⟩:=qx7 a b (by omega);have hu0:0≤u:=by
  refine Classical.byContradiction fun h=> ?_
  have:=Int.mul_neg_of_pos_of_neg hG (show u<0 by omega);omega
 have hv1:0<v:=by
  refine Classical.byContradiction fun h=> ?_
  have:=Int.mul_neg_of_pos_of_neg hG (show v<0 by omega);omega
 rw[show(a.natAbs:Int)=a by omega,show(b.natAbs:Int)=b by omega]at hg1;rw[jxy neg hG hu hv hu0 hv1 ha2 hb2 hg1];refine congrArg some ?_;cases neg with
 |true=>
  simp only[if_true];rw[hu,hv,show-(G*u)=G*(-u) by rw[Int.mul_neg],jgv hG];exact jce hv1 (by rw[Int.natAbs_neg];exact hc)
 |false=>
  simp only[Bool.false_eq_true,if_false];rw[hu,hv,jgv hG];exact jce hv1 hc
def jn7:ab×Int:=((0,0,()),1)
def qcc(a b:ab):ab×Int:=bif vB a&&vB b then rF (fv a+fv b)else jn7
def qba(a b:ab):ab×Int:=bif vB a&&vB b then rF (fv a-fv b)else jn7
def mg(a b:ab):ab×Int:=bif vB a&&vB b then rF (fv a*fv b)else jn7
def u4(a b:ab):ab×Int:=bif vB a&&vB b then(bif decide (b.1=0)then((0,0,()),7)else rF (fv a/fv b))else jn7
theorem jj7(x y:Int):(if(!(decide (x<0)==decide (y<0)))=true then-((x.natAbs:Int)*(y.natAbs:Int))else(x.natAbs:Int)*(y.natAbs:Int))=x*y:=by
 by_cases hx:x<0<;>by_cases hy:y<0
 ·simp only[hx,hy,decide_true,beq_self_eq_true,Bool.not_true,Bool.false_eq_true,if_false];rw[show(x.natAbs:Int)= -x by omega,show(y.natAbs:Int)= -y by omega,Int.neg_mul_neg]
 ·simp only[hx,hy,decide_true,decide_false];simp only[show(!(true==false))=true from rfl,if_true];rw[show(x.natAbs:Int)= -x by omega,show(y.natAbs:Int)=y by omega,Int.neg_mul,Int.neg_neg]
 ·simp only[hx,hy,decide_true,decide_false];simp only[show(!(false==true))=true from rfl,if_true];rw[show(x.natAbs:Int)=x by omega,show(y.natAbs:Int)= -y by omega,Int.mul_neg,Int.neg_neg]
 ·simp only[hx,hy,decide_false,beq_self_eq_true,Bool.not_true,Bool.false_eq_true,if_false];rw[show(x.natAbs:Int)=x by omega,show(y.natAbs:Int)=y by omega]
theorem ja6{a:ab}(h:NF a):0≤(a.1.natAbs:Int)∧(a.1.natAbs:Int)≤1073741824:=by
 have:=h.n0;have:=h.n1;omega
theorem jhh{x y:Int}(hx:0≤x∧x≤1073741824)(hy:0≤y∧y≤1073741824):0≤x*y∧x*y≤1152921504606846976:=by
 have h:=xx (a:=1073741824) (b:=1073741824) (x:=x) (y:=y) ⟨by omega,hx.2⟩ ⟨by omega,hy.2⟩;exact⟨Int.mul_nonneg hx.1 hy.1,h.2⟩
theorem q4i{x y:Int}(hx:1≤x∧x≤1073741824)(hy:1≤y∧y≤1073741824):0<x*y∧x*y≤1152921504606846976:=⟨Int.mul_pos (by omega) (by omega),(jhh ⟨by omega,hx.2⟩ ⟨by omega,hy.2⟩).2⟩
theorem qxs(a b:ab):qce a b=some (mg a b):=by
 unfold qce mg;rw[q7f,af,mc];cases hv:vB a&&vB b with
 |false=>rfl
 |true=>
  simp only[Bool.and_eq_true]at hv;have ha:=dr.1 hv.1;have hb:=dr.1 hv.2;simp only[cond_true];have h1:=jhh (ja6 ha) (ja6 hb);have h2:=q4i ⟨ha.d0,ha.d1⟩ ⟨hb.d0,hb.d1⟩;have a0:=ha.n0;have a1:=ha.n1;have a2:=ha.d0;have a3:=ha.d1;have b0:=hb.n0;have b1:=hb.n1;have b2:=hb.d0;have b3:=hb.d1;rw[qky (by omega) (by omega),qky (by omega) (by omega),af,af,mb h1.1 (by omega),mb (x:=a.2.1) (by omega) (by omega),mb (x:=b.2.1) (by omega) (by omega),mb (by omega) (by omega),jbt _ h1.1 (by omega) h2.1 (by omega),af,jj7];show some (rF _)=some (rF _);refine congrArg (fun x=>some (rF x)) ?_;have:=ha.d;have:=hb.d;unfold fv;rw[Rat.intCast_mul,Rat.intCast_mul]
  grind
theorem jm3(a b:ab):qi1 a b=some (u4 a b):=by
 unfold qi1 u4;rw[q7f,af,mc];cases hv:vB a&&vB b with
 |false=>rfl
 |true=>
  simp only[Bool.and_eq_true]at hv;have ha:=dr.1 hv.1;have hb:=dr.1 hv.2;simp only[cond_true];by_cases h0:b.1=0
  ·rw[bu h0,bu h0]
  ·rw[bg h0,bg h0];have h1:=jhh (ja6 ha) (y:=b.2.1) ⟨by have:=hb.d0;omega,hb.d1⟩;have h2:=q4i ⟨ha.d0,ha.d1⟩ (y:=(b.1.natAbs:Int)) ⟨by omega,(ja6 hb).2⟩;have a0:=ha.n0;have a1:=ha.n1;have a2:=ha.d0;have a3:=ha.d1;have b0:=hb.n0;have b1:=hb.n1;have b2:=hb.d0;have b3:=hb.d1;rw[qky (by omega) (by omega),qky (by omega) (by omega),af,af,mb (x:=b.2.1) (by omega) (by omega),mb h1.1 (by omega),mb (x:=a.2.1) (by omega) (by omega),mb (by omega) (by omega),jbt _ h1.1 (by omega) h2.1 (by omega),af];show some (rF _)=some (rF _);refine congrArg (fun x=>some (rF x)) ?_;have e1:=ha.d;have e2:=hb.d;have e3:(b.1:Rat)≠0:=fun e=>h0 (Rat.intCast_inj.1 (show(b.1:Rat)=((0:Int):Rat)from e))
   have e4:(((if(!(decide (a.1<0)==decide (b.1<0)))=true then-((a.1.natAbs:Int)*b.2.1)else(a.1.natAbs:Int)*b.2.1:Int):Rat))*((b.1:Int):Rat)=(a.1:Rat)*(b.2.1:Rat)*((b.1.natAbs:Int):Rat):=by
    rw[←Rat.intCast_mul,←Rat.intCast_mul,←Rat.intCast_mul];refine congrArg _ ?_;have:=jj7 a.1 b.1;have e5:(b.1.natAbs:Int)*(b.1.natAbs:Int)=b.1*b.1:=by
     rw[←Int.natCast_mul];exact Int.natAbs_mul_self
    split
    ·rename_i hs;rw[if_pos hs]at this
     grind
    ·rename_i hs;rw[if_neg hs]at this
     grind
   have e6:(((b.1.natAbs:Int)):Rat)≠0:=fun e=>h0 (by have:=Rat.intCast_inj.1 (show((b.1.natAbs:Int):Rat)=((0:Int):Rat)from e);omega)
   unfold fv;rw[Rat.intCast_mul]
   grind
theorem jr0{x y:Int}(h:(decide (x<0)==decide (y<0))=true):(if decide (x<0)=true then-((x.natAbs:Int)+(y.natAbs:Int))else(x.natAbs:Int)+(y.natAbs:Int))=x+y:=by
 by_cases hx:x<0<;>by_cases hy:y<0<;>simp only[hx,hy,decide_true,decide_false,if_true,Bool.false_eq_true,if_false]at h⊢
 ·omega
 ·cases h
 ·cases h
 ·omega
theorem jr1(x:Int):(if decide (x<0)=true then-(x.natAbs:Int)else(x.natAbs:Int))=x:=by
 by_cases hx:x<0<;>simp only[hx,decide_true,decide_false,if_true,Bool.false_eq_true,if_false]<;>omega
theorem q23(a b:ab):qe3 a b=some (qcc a b):=by
 unfold qe3 qcc;rw[q7f,af,mc];cases hv:vB a&&vB b with
 |false=>rfl
 |true=>
  simp only[Bool.and_eq_true]at hv;have ha:=dr.1 hv.1;have hb:=dr.1 hv.2;simp only[cond_true];have a0:=ha.n0;have a1:=ha.n1;have a2:=ha.d0;have a3:=ha.d1;have b0:=hb.n0;have b1:=hb.n1;have b2:=hb.d0;have b3:=hb.d1;obtain⟨G,p,q,hG,hp,hq,hc,hv0,hg1,_⟩:=qx7 a.2.1 b.2.1 (by omega);rw[show(a.2.1.natAbs:Int)=a.2.1 by omega,show(b.2.1.natAbs:Int)=b.2.1 by omega]at hg1;have hpos:∀x:Int,0<G*x→0<x:=fun x h=>by
   refine Classical.byContradiction fun h0=> ?_
   have:=Int.mul_nonneg (show 0≤G by omega) (show 0≤-x by omega);rw[Int.mul_neg]at this;omega
  have hp0:=hpos p (by omega);have hq0:=hpos q (by omega);have hle:∀x:Int,0<x→x≤G*x:=fun x h=>by
   have:1*x≤G*x:=Int.mul_le_mul_of_nonneg_right (by omega) (by omega);omega
  have hp1:=hle p hp0;have hq1:=hle q hq0;have e1:Int.tdiv b.2.1 G=q:=by rw[hq,Int.mul_tdiv_cancel_left _ (by omega)]
  have e2:Int.tdiv a.2.1 G=p:=by rw[hp,Int.mul_tdiv_cancel_left _ (by omega)]
  have m1:=xx (a:=1073741824) (b:=1073741824) (x:=a.1) (y:=q) ⟨a0,a1⟩ ⟨by omega,by omega⟩;have m2:=xx (a:=1073741824) (b:=1073741824) (x:=b.1) (y:=p) ⟨b0,b1⟩ ⟨by omega,by omega⟩;have m3:=q4i (x:=a.2.1) (y:=q) ⟨a2,a3⟩ ⟨by omega,by omega⟩;have hG0:G≠0:=by omega
  have hval:((a.1*q+b.1*p:Int):Rat)/((a.2.1*q:Int):Rat)=fv a+fv b:=by
   have e1:=ha.d;have e2:=hb.d;unfold fv;rw[hp,hq]at*;simp only[Rat.intCast_mul,Rat.intCast_add]at e1 e2⊢
   grind
  rw[jod _ _ (by omega),af,hg1];simp only[e1,e2];rw[y8 hG0,bk (by omega) (by omega),bk (by omega) (by omega),y8 hG0,bk (by omega) (by omega),bk (by omega) (by omega),y8 hG0,bk (by omega) (by omega)];rw[mb (x:=a.2.1) (by omega) (by omega),mb (x:=q) (by omega) (by omega),mb (x:=a.2.1*q) (by omega) (by omega)];cases hs:(decide (a.1*q<0)==decide (b.1*p<0))with
  |true=>
   rw[cond_true,qky (by omega) (by omega),qky (by omega) (by omega),af,af,mb (by omega) (by omega),jbt _ (by omega) (by omega) m3.1 (by omega),af,jr0 hs,hval]
  |false=>
   rw[cond_false,bk (by omega) (by omega),bk (by omega) (by omega),qky (by omega) (by omega),af,jbt _ (by omega) (by omega) m3.1 (by omega),af,jr1,hval]
def qun(a:ab):ab:=(0-a.1,a.2.1,())
theorem NF.neg{a:ab}(h:NF a):NF (qun a):=⟨by have:=h.n1;show _≤0-a.1;omega,by have:=h.n0;show 0-a.1≤_;omega,h.d0,h.d1,by show Nat.gcd (0-a.1).natAbs _=1;rw[Int.zero_sub,Int.natAbs_neg];exact h.co⟩
theorem jbv(a:ab):fv (qun a)= -fv a:=by
 show((0-a.1:Int):Rat)/(a.2.1:Rat)= -((a.1:Rat)/(a.2.1:Rat));rw[Int.zero_sub,Rat.intCast_neg,Rat.div_def,Rat.div_def,Rat.neg_mul]
theorem qoy{a:ab}(h0: -9223372036854775807≤a.1)(h1:a.1≤9223372036854775807):lx a=some (qun a):=by
 unfold lx;rw[bk (by omega) (by omega)];rfl
theorem q25(a b:ab):qe5 a b=some (qba a b):=by
 unfold qe5 qba;rw[q7f,af,mc];cases hv:vB a&&vB b with
 |false=>rfl
 |true=>
  simp only[Bool.and_eq_true]at hv;have ha:=dr.1 hv.1;have hb:=dr.1 hv.2;simp only[cond_true];rw[bk (by have:=hb.n1;omega) (by have:=hb.n0;omega),q23,af];show some (qcc a (qun b))=_;unfold qcc;rw[dr.2 hb.neg,hv.1,jbv,←Rat.sub_eq_add_neg];rfl
theorem jjj{a b:ab}(ha:NF a)(hb:NF b):a.1*b.2.1<b.1*a.2.1↔fv a<fv b:=by
 obtain⟨a1,a2⟩:=q31 ha;obtain⟨b1,b2⟩:=q31 hb;rw[Rat.lt_iff,a1,a2,b1,b2]
def qdh(a b:ab):Int×Int:=bif vB a&&vB b then((bif decide (fv a<fv b)then-1 else bif decide (fv b<fv a)then 1 else 0),0)else(0,1)
theorem ja5(a b:ab):qe4 a b=some (qdh a b):=by
 unfold qe4 qdh;rw[q7f,af,mc];cases hv:vB a&&vB b with
 |false=>rfl
 |true=>
  simp only[Bool.and_eq_true]at hv;have ha:=dr.1 hv.1;have hb:=dr.1 hv.2;simp only[cond_true];have m1:=xx (a:=1073741824) (b:=1073741824) (x:=a.1) (y:=b.2.1) ⟨ha.n0,ha.n1⟩ ⟨by have:=hb.d0;omega,hb.d1⟩;have m2:=xx (a:=1073741824) (b:=1073741824) (x:=b.1) (y:=a.2.1) ⟨hb.n0,hb.n1⟩ ⟨by have:=ha.d0;omega,ha.d1⟩;rw[bk (by omega) (by omega),bk (by omega) (by omega),decide_eq_decide.2 (jjj ha hb),decide_eq_decide.2 (jjj hb ha)];cases decide (fv a<fv b)<;>cases decide (fv b<fv a)<;>rfl
theorem wg{a:ab}(h:NF a):(a.1<0↔fv a<0):=by
 have h1:=jjj h (nu (n:=0) (by omega) (by omega));rw[nk]at h1;have h2:a.1*1<0*a.2.1↔fv a<((0:Int):Rat):=h1;rw[Int.mul_one,Int.zero_mul]at h2;exact h2
theorem qq5{a:ab}(h:NF a):(0<a.1↔0<fv a):=by
 have h1:=jjj (nu (n:=0) (by omega) (by omega)) h;rw[nk]at h1;have h2:0*a.2.1<a.1*1↔((0:Int):Rat)<fv a:=h1;rw[Int.mul_one,Int.zero_mul]at h2;exact h2
theorem qoz{a:ab}(h:NF a):(a.1=0↔fv a=0):=by
 have h1:=wg h;have h2:=qq5 h;constructor
 ·intro e;have h3:¬fv a<0:=fun h=>by have:=h1.2 h;omega
  have h4:¬0<fv a:=fun h=>by have:=h2.2 h;omega
  grind
 ·intro e;have h3:¬a.1<0:=fun h=>by have:=h1.1 h;rw[e]at this;exact absurd this (by decide)
  have h4:¬0<a.1:=fun h=>by have:=h2.1 h;rw[e]at this;exact absurd this (by decide)
  omega
theorem jqf{a:ab}(h:NF a):∃c:Int,qqz a=some (c,0)∧fv a≤(c:Rat)∧(c:Rat)-1<fv a:=by
 have a0:=h.n0;have a1:=h.n1;have a2:=h.d0;have a3:=h.d1;have hd0:a.2.1≠0:=by omega
 have hdm:=Int.mul_tdiv_add_tmod a.1 a.2.1;have hm:=Int.tmod_lt_of_pos a.1 (b:=a.2.1) (by omega);have hm2: -a.2.1<Int.tmod a.1 a.2.1:=by
  have h1:(Int.tmod a.1 a.2.1).natAbs<a.2.1.natAbs:=by rw[Int.natAbs_tmod];exact Nat.mod_lt _ (by omega)
  omega
 have hq: -1073741824≤Int.tdiv a.1 a.2.1∧Int.tdiv a.1 a.2.1≤1073741824:=by
  have h1:(Int.tdiv a.1 a.2.1).natAbs≤a.1.natAbs:=by rw[Int.natAbs_tdiv];exact Nat.div_le_self _ _
  omega
 unfold qqz;rw[qt7,af,dr.2 h,y8 hd0,bk (by omega) (by omega),y8 hd0];simp only[Bool.not_true,cond_false];have hdp:=h.dp;have hval:fv a*((a.2.1:Int):Rat)=((Int.tdiv a.1 a.2.1:Int):Rat)*((a.2.1:Int):Rat)+((Int.tmod a.1 a.2.1:Int):Rat):=by
  rw[←Rat.intCast_mul,←Rat.intCast_add,Int.mul_comm,hdm];unfold fv;exact Rat.div_mul_cancel h.d
 generalize hQ:Int.tdiv a.1 a.2.1=Q at*;generalize hM:Int.tmod a.1 a.2.1=M at*;have hMlt:(M:Rat)<(a.2.1:Rat):=Rat.intCast_lt_intCast.2 hm;have hMgt: -(a.2.1:Rat)<(M:Rat):=by rw[←Rat.intCast_neg];exact Rat.intCast_lt_intCast.2 hm2
 by_cases hp:0<M
 ·rw[bi hp,bk (by omega) (by omega)];have hMp:(0:Rat)<(M:Rat):=Rat.intCast_pos.2 hp;refine⟨Q+1,rfl,?_,?_⟩
  ·rw[Rat.intCast_add,Rat.intCast_one];refine Rat.le_of_mul_le_mul_right (c:=(a.2.1:Rat)) ?_ hdp
   grind
  ·rw[Rat.intCast_add,Rat.intCast_one];refine Rat.lt_of_mul_lt_mul_right (c:=(a.2.1:Rat)) ?_ (Rat.le_of_lt hdp)
   grind
 ·rw[bj (by omega)];have hMp:(M:Rat)≤0:=by
   have:=Rat.intCast_le_intCast.2 (show M≤0 by omega);exact this
  refine⟨Q,rfl,?_,?_⟩
  ·refine Rat.le_of_mul_le_mul_right (c:=(a.2.1:Rat)) ?_ hdp
   grind
  ·refine Rat.lt_of_mul_lt_mul_right (c:=(a.2.1:Rat)) ?_ (Rat.le_of_lt hdp)
   grind
theorem qtr{num den:Int}(hn0: -9223372036854775807≤num)(hn1:num≤9223372036854775807)(hd0: -9223372036854775807≤den)(hd1:den≤9223372036854775807)(hd:den≠0):w9 num den=some (rF ((num:Rat)/(den:Rat))):=by
 obtain⟨G,u,v,hG,hu,hv,hc,hv0,_,hg2⟩:=qx7 num den hd;rw[jpp hG hu hv hv0 hn0 hn1 hd0 hd1 hg2,jya hG hu hv hv0 hc]
theorem sm(a:ab):ls a=some (vB a):=by
 unfold ls;by_cases h1: -1073741824≤a.1
 ·by_cases h2:a.1≤1073741824
  ·by_cases h3:1≤a.2.1
   ·by_cases h4:a.2.1≤1073741824
    ·rw[bj h1,bj h2,bj h3,bj h4,qtr (by omega) (by omega) (by omega) (by omega) (by omega),af];refine congrArg some ?_;rw[Bool.eq_iff_iff,dr];simp only[Bool.and_eq_true,decide_eq_true_eq,and_true];rcases jag ((a.1:Rat)/(a.2.1:Rat))with e|⟨_,h5,h6⟩
     ·rw[e];constructor
      ·rintro⟨_,h6⟩;have h6:(0:Int)=a.2.1:=h6;omega
      ·intro h;have:=jjw h;unfold fv at this;rw[e]at this;have h9:(6:Int)=0:=congrArg Prod.snd this;omega
     ·constructor
      ·rintro⟨h7,h8⟩;have:a=(rF ((a.1:Rat)/(a.2.1:Rat))).1:=by
        obtain⟨x,y,u⟩:=a;exact(Prod.ext h7 (Prod.ext h8 rfl)).symm
       rw[this];exact h5
      ·intro h;have:=jx0 h5 h h6;exact⟨congrArg Prod.fst this,congrArg (fun x=>x.2.1) this⟩
    ·rw[bj h1,bj h2,bj h3,bi (by omega)];simp[vB,h4]
   ·rw[bj h1,bj h2,bi (by omega)];simp[vB,h3]
  ·rw[bj h1,bi (by omega)];simp[vB,h2]
 ·rw[bi (by omega)];simp[vB,h1]
theorem jah(a b:ab):qje a b=some (mg a b):=by
 unfold qje mg;rw[sm,sm,af,af,mc,mc];cases h1:vB a with
 |false=>rfl
 |true=>
  cases h2:vB b with
  |false=>rfl
  |true=>
   have ha:=dr.1 h1;have hb:=dr.1 h2;simp only[cond_true,Bool.and_self];have m1:=xx (a:=1073741824) (b:=1073741824) ⟨ha.n0,ha.n1⟩ ⟨hb.n0,hb.n1⟩;have m2:=q4i ⟨ha.d0,ha.d1⟩ ⟨hb.d0,hb.d1⟩;rw[bk (by omega) (by omega),bk (by omega) (by omega),qtr (by omega) (by omega) (by omega) (by omega) (by omega),af];show some (rF _)=some (rF _);refine congrArg (fun x=>some (rF x)) ?_;have:=ha.d;have:=hb.d;unfold fv;rw[Rat.intCast_mul,Rat.intCast_mul]
   grind
theorem qyo(a b:ab):qe0 a b=some (qcc a b):=by
 unfold qe0 qcc;rw[sm,sm,af,af,mc,mc];cases h1:vB a with
 |false=>rfl
 |true=>
  cases h2:vB b with
  |false=>rfl
  |true=>
   have ha:=dr.1 h1;have hb:=dr.1 h2;simp only[cond_true,Bool.and_self];have m1:=xx (a:=1073741824) (b:=1073741824) (x:=a.1) (y:=b.2.1) ⟨ha.n0,ha.n1⟩ ⟨by have:=hb.d0;omega,hb.d1⟩;have m3:=xx (a:=1073741824) (b:=1073741824) (x:=b.1) (y:=a.2.1) ⟨hb.n0,hb.n1⟩ ⟨by have:=ha.d0;omega,ha.d1⟩;have m2:=q4i ⟨ha.d0,ha.d1⟩ ⟨hb.d0,hb.d1⟩;rw[bk (by omega) (by omega),bk (by omega) (by omega),bk (by omega) (by omega),bk (by omega) (by omega),qtr (by omega) (by omega) (by omega) (by omega) (by omega),af];show some (rF _)=some (rF _);refine congrArg (fun x=>some (rF x)) ?_;have:=ha.d;have:=hb.d;unfold fv;rw[Rat.intCast_mul,Rat.intCast_add,Rat.intCast_mul,Rat.intCast_mul]
   grind
theorem jma(a b:ab):qra a b=some (qba a b):=by
 unfold qra qba;rw[sm,sm,af,af,mc,mc];cases h1:vB a with
 |false=>rfl
 |true=>
  cases h2:vB b with
  |false=>rfl
  |true=>
   have hb:=dr.1 h2;simp only[cond_true,Bool.and_self];unfold qym;rw[bk (by have:=hb.n1;omega) (by have:=hb.n0;omega),af];rw[qyo,af];show some (qcc a (qun b))=_;unfold qcc;rw[dr.2 hb.neg,h1,jbv,←Rat.sub_eq_add_neg];rfl
theorem qpf(l:List ab)(hl:l.length≤9223372036854775806):sk l=some (l.all vB):=by
 have h:=jhg (step:=fun a=>mw (R:=LR Int Unit Bool) l a (fun a' =>some (.next a')) (fun e=>some (.done e)) (fun r=>some (.ret r))) l ab.z (fun a=> !vB a) false hl (fun i hi=>by
  unfold mw;simp(disch:=omega)only[sm,rs];rw[am];cases vB (l.getD i ab.z)<;>rfl) (by unfold mw;simp(disch:=omega)only[rs])
 have h:qjf l 0=_:=h;unfold sk;rw[h,af,←jci];cases(l.any fun a=> !vB a)<;>rfl
end Go.Proofs.YteljgpepodpebaaGreat
