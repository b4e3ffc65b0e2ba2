/-
  The tableau: a run ends.
-/
import Derived.Test.YteljgpepodpebaaGreatZ3F6
set_option linter.all false
namespace Go.Proofs.YteljgpepodpebaaGreat
open Go.K Go.M
section
variable {m e k : Nat} {c : List ab} {R : List (List ab)} {bs : List Int}
theorem q9s(h:TI m e c R bs)(hk:k<e):∀{n:Nat},n≤m→(ay k R bs n).2=0→
  ((ay k R bs n).1.1= -1∧∀i,i<n→¬0<(tb c R bs).A i k)∨
  (0≤(ay k R bs n).1.1∧(ay k R bs n).1.1.toNat<n∧0<(tb c R bs).A (ay k R bs n).1.1.toNat k∧NF (ay k R bs n).1.2∧fv (ay k R bs n).1.2=(tb c R bs).A (ay k R bs n).1.1.toNat e/(tb c R bs).A (ay k R bs n).1.1.toNat k∧
   ∀i,i<n→0<(tb c R bs).A i k→fv (ay k R bs n).1.2<(tb c R bs).A i e/(tb c R bs).A i k∨(fv (ay k R bs n).1.2=(tb c R bs).A i e/(tb c R bs).A i k∧(tb c R bs).B (ay k R bs n).1.1.toNat≤(tb c R bs).B i))
 |0,_,_=> .inl ⟨rfl,fun i hi=>by omega⟩
 |n+1,hn,h0=>by
  have h1:=je3 h0;have ih:=q9s h hk (n:=n) (by omega) h1;have hNk:NF (gz (ci R n) k):=h.rn n k (by omega) (by omega);have hw:(ci R n).length-1=e:=by rw[h.rw n (by omega)];rfl
  have hNe:NF (gz (ci R n) e):=h.rn n e (by omega) (by omega);rw[ay,bu h1,hw]at h0⊢;have skip:¬0<(tb c R bs).A n k→(((ay k R bs n).1.1= -1∧∀i,i<n+1→¬0<(tb c R bs).A i k)∨
   (0≤(ay k R bs n).1.1∧(ay k R bs n).1.1.toNat<n+1∧0<(tb c R bs).A (ay k R bs n).1.1.toNat k∧NF (ay k R bs n).1.2∧fv (ay k R bs n).1.2=(tb c R bs).A (ay k R bs n).1.1.toNat e/(tb c R bs).A (ay k R bs n).1.1.toNat k∧
    ∀i,i<n+1→0<(tb c R bs).A i k→fv (ay k R bs n).1.2<(tb c R bs).A i e/(tb c R bs).A i k∨(fv (ay k R bs n).1.2=(tb c R bs).A i e/(tb c R bs).A i k∧(tb c R bs).B (ay k R bs n).1.1.toNat≤(tb c R bs).B i))):=fun hs=>by
   rcases ih with⟨i1,i2⟩|⟨i1,i2,i3,i4,i5,i6⟩
   ·refine .inl ⟨i1,fun i hi=> ?_⟩;by_cases e1:i=n
    ·rw[e1];exact hs
    ·exact i2 i (by omega)
   ·refine .inr ⟨i1,by omega,i3,i4,i5,fun i hi hp=> ?_⟩;by_cases e1:i=n
    ·rw[e1]at hp;exact absurd hp hs
    ·exact i6 i (by omega) hp
  by_cases c1:(gz (ci R n) k).1≤0
  ·rw[lz c1];refine skip fun hp=> ?_
   have:=(qq5 hNk).2 hp;omega
  ·rw[wd (by omega)]at h0⊢;have hpos:0<(tb c R bs).A n k:=(qq5 hNk).1 (by omega);by_cases c2:(u4 (gz (ci R n) e) (gz (ci R n) k)).2=0
   ·rw[bu c2]at h0⊢;obtain⟨_,_,q3,q4⟩:=jja c2;generalize u4 (gz (ci R n) e) (gz (ci R n) k)=q at*;have q4:fv q.1=(tb c R bs).A n e/(tb c R bs).A n k:=q4;have take:(∀i,i<n→0<(tb c R bs).A i k→fv q.1<(tb c R bs).A i e/(tb c R bs).A i k∨(fv q.1=(tb c R bs).A i e/(tb c R bs).A i k∧(tb c R bs).B n≤(tb c R bs).B i))→
      (0≤(n:Int)∧(n:Int).toNat<n+1∧0<(tb c R bs).A (n:Int).toNat k∧NF q.1∧fv q.1=(tb c R bs).A (n:Int).toNat e/(tb c R bs).A (n:Int).toNat k∧
      ∀i,i<n+1→0<(tb c R bs).A i k→fv q.1<(tb c R bs).A i e/(tb c R bs).A i k∨(fv q.1=(tb c R bs).A i e/(tb c R bs).A i k∧(tb c R bs).B (n:Int).toNat≤(tb c R bs).B i)):=fun hh=>by
     rw[Int.toNat_natCast];refine⟨by omega,by omega,hpos,q3,q4,fun i hi hp=> ?_⟩;by_cases e1:i=n
     ·subst e1;exact .inr ⟨q4,Nat.le_refl _⟩
     ·exact hh i (by omega) hp
    by_cases c3:0≤(ay k R bs n).1.1
    ·rw[lz c3]at h0⊢;rcases ih with⟨i1,i2⟩|⟨i1,i2,i3,i4,i5,i6⟩
     ·omega
     ·have hcmp:(qdh q.1 (ay k R bs n).1.2).1=bif decide (fv q.1<fv (ay k R bs n).1.2)then-1 else bif decide (fv (ay k R bs n).1.2<fv q.1)then 1 else 0:=by
       unfold qdh;rw[dr.2 q3,dr.2 i4];rfl
      have hcmp:(qdh q.1 (ay k R bs n).1.2).1=bif decide (fv q.1<fv (ay k R bs n).1.2)then(-1:Int)else bif decide (fv (ay k R bs n).1.2<fv q.1)then 1 else 0:=hcmp;rw[hcmp]at h0⊢;by_cases l1:fv q.1<fv (ay k R bs n).1.2
      ·have e1:(bif decide (fv q.1<fv (ay k R bs n).1.2)then(-1:Int)else bif decide (fv (ay k R bs n).1.2<fv q.1)then 1 else 0)= -1:=by simp[l1]
       rw[e1,bi (by omega)];refine .inr (take fun i hi hp=> .inl ?_);rcases i6 i hi hp with h5|⟨h5,_⟩<;>grind
      ·by_cases l2:fv (ay k R bs n).1.2<fv q.1
       ·have e1:(bif decide (fv q.1<fv (ay k R bs n).1.2)then(-1:Int)else bif decide (fv (ay k R bs n).1.2<fv q.1)then 1 else 0)=1:=by simp[l1,l2]
        rw[e1,bj (by omega),bg (by omega)];refine .inr ⟨i1,by omega,i3,i4,i5,fun i hi hp=> ?_⟩;by_cases e2:i=n
        ·subst e2;exact .inl (by rw[←q4];exact l2)
        ·exact i6 i (by omega) hp
       ·have e1:(bif decide (fv q.1<fv (ay k R bs n).1.2)then(-1:Int)else bif decide (fv (ay k R bs n).1.2<fv q.1)then 1 else 0)=0:=by simp[l1,l2]
        have heq:fv q.1=fv (ay k R bs n).1.2:=by grind
        rw[e1,bj (by omega),bu rfl];have hb1:=(h.bn n (by omega)).1;have hb2:=(h.bn (ay k R bs n).1.1.toNat (by omega)).1;by_cases c6:gb bs n<gb bs (ay k R bs n).1.1.toNat
        ·rw[bi c6];have hB:(tb c R bs).B n≤(tb c R bs).B (ay k R bs n).1.1.toNat:=by show(gb bs n).toNat≤(gb bs _).toNat;omega
         refine .inr (take fun i hi hp=> ?_);rw[heq];rcases i6 i hi hp with h5|⟨h5,h6⟩
         ·exact .inl h5
         ·exact .inr ⟨h5,Nat.le_trans hB h6⟩
        ·rw[bj (by omega)];refine .inr ⟨i1,by omega,i3,i4,i5,fun i hi hp=> ?_⟩;by_cases e2:i=n
         ·subst e2;refine .inr ⟨by rw[←q4];exact heq.symm,?_⟩;show(gb bs _).toNat≤(gb bs i).toNat;omega
         ·exact i6 i (by omega) hp
    ·rw[wd (by omega)];rcases ih with⟨i1,i2⟩|⟨i1,i2,i3,i4,i5,i6⟩
     ·exact .inr (take fun i hi hp=>absurd hp (i2 i hi))
     ·exact absurd i1 c3
   ·rw[bg c2]at h0;exact absurd h0 c2
theorem jls(h:TI m e c R bs)(hk:k<e)(h0:(ay k R bs m).2=0):(ay k R bs m).1.1= -1∨(0≤(ay k R bs m).1.1∧Lev m e (tb c R bs) (ay k R bs m).1.1.toNat k):=by
 rcases q9s h hk (Nat.le_refl m) h0 with⟨h1,_⟩|⟨h1,h2,h3,h4,h5,h6⟩
 ·exact .inl h1
 ·refine .inr ⟨h1,h2,h3,fun i hi hp=> ?_⟩;rw[←h5];exact h6 i hi hp
end
theorem jln(l:List ab)(hl:l.length≤9223372036854775806):dj l=some (qnn (fun a:ab=>decide (a.1<0)) l):=by
 have h:=te (step:=fun a=>bz (R:=LR Int Unit Int) l (l.length:Int) a (fun a' =>some (.next a')) (fun e=>some (.done e)) (fun r=>some (.ret r))) l ab.z (fun a=>decide (a.1<0)) (fun i=>(i:Int)) hl (fun i hi=>by
  unfold bz qh;simp(disch:=omega)only[rs];rw[am];cases decide ((l.getD i ab.z).1<0)<;>rfl) (by unfold bz;simp(disch:=omega)only[rs])
 have h:jo l (l.length:Int) 0=_:=h;unfold dj;rw[h,af,qg2]
theorem joj(l:List ab)(hl:l.length≤9223372036854775806):du l=some (qnn (fun a:ab=> !decide (a.1=0)) l):=by
 have h:=te (step:=fun a=>ca (R:=LR Int Unit Int) l (l.length:Int) a (fun a' =>some (.next a')) (fun e=>some (.done e)) (fun r=>some (.ret r))) l ab.z (fun a=> !decide (a.1=0)) (fun i=>(i:Int)) hl (fun i hi=>by
  unfold ca qbn;simp(disch:=omega)only[rs];rw[am];cases decide ((l.getD i ab.z).1=0)<;>rfl) (by unfold ca;simp(disch:=omega)only[rs])
 have h:j2 l (l.length:Int) 0=_:=h;unfold du;rw[h,af,qg2]
theorem jdm{l:List ab}{n j:Nat}(h:j<n):gz (l.take n) j=gz l j:=by
 simp only[gz,List.getD_eq_getElem?_getD,List.getElem?_take,if_pos h]
structure TR (m e : Nat) (T0 : Tb) (c : List ab) (R : List (List ab)) (bs : List Int) : Prop where
 ti : TI m e c R bs
 bas : Bas m (e + 1) (tb c R bs)
 fea : ∀ i, i < m → 0 ≤ (tb c R bs).A i e
 eqv : Eqv m (e + 1) T0 (tb c R bs)
abbrev RS:=List ab×Int×Int×List (List ab)×List Int
abbrev q8f(vars:Nat)(s:RS):Option (LR RS RS (Int×List ab×Int×Int×List (List ab)×List Int)):=dh (vars:Int) s.1 s.2.1 s.2.2.1 s.2.2.2.1 s.2.2.2.2 (fun a' =>some (.next a')) (fun e=>some (.done e)) (fun r=>some (.ret r))
theorem jfv{m e vars:Nat}{c:List ab}{R:List (List ab)}{bs:List Int}(t3:Int)(h:TI m e c R bs)(hv:vars≤e)(he:e+1≤100000)(hm:m≤100000):
  q8f vars (c,t3,0,R,bs)=some (.ret (-1,c,t3,0,R,bs))∨
  ∃k,Ent vars (tb c R bs) k∧
   (q8f vars (c,t3,0,R,bs)=some (.ret ((k:Int),c,t3,0,R,bs))∨
   (∃x,x≠0∧q8f vars (c,t3,0,R,bs)=some (.done (c,t3,x,R,bs)))∨
   ∃r,Lev m e (tb c R bs) r k∧q8f vars (c,t3,0,R,bs)=some (.next ((rg r k c R bs).1.1,t3,(rg r k c R bs).2,(rg r k c R bs).1.2.1,(rg r k c R bs).1.2.2))):=by
 have hcl:=h.cl;have hidx:=jje (fun a:ab=>decide (a.1<0)) (c.take vars);have hlen:(c.take vars).length=vars:=by simp;omega
 have hat:=jjd (q:=fun a:ab=>decide (a.1<0)) (l:=c.take vars) ab.z;unfold q8f dh;dsimp only;rw[bu rfl,q2o (by omega) (by omega) (by omega)];simp only[Int.toNat_natCast];rw[jln _ (by rw[hlen];omega),af];by_cases h0:qnn (fun a:ab=>decide (a.1<0)) (c.take vars)<0
 ·rw[bi h0];exact .inl rfl
 ·rw[bj (by omega)];obtain⟨a1,a2,a3⟩:=hat (by omega);generalize hki:qnn (fun a:ab=>decide (a.1<0)) (c.take vars)=ki at*;obtain⟨k,rfl⟩:∃k:Nat,ki=(k:Int):=⟨ki.toNat,by omega⟩;simp only[Int.toNat_natCast]at a1 a2 a3;rw[hlen]at a1;have hent:Ent vars (tb c R bs) k:=by
   refine⟨a1,?_,fun j hj=> ?_⟩
   ·have:=of_decide_eq_true a2;rw[show(c.take vars).getD k ab.z=gz c k from jdm a1]at this;exact(wg (h.cn k (by omega))).1 this
   ·have:=of_decide_eq_false (a3 j hj);rw[show(c.take vars).getD j ab.z=gz c j from jdm (by omega)]at this;show 0≤fv (gz c j);have h5:=wg (h.cn j (by omega));have h6:¬fv (gz c j)<0:=fun h=>this (h5.2 h)
    exact Rat.not_lt.1 h6
  refine .inr ⟨k,hent,?_⟩;rw[jot t3 h.rl h.rw h.bl (by omega) he hm,af];simp only[decide_true,lf];by_cases l0:(ay k R bs m).2=0
  ·rw[cm l0];rcases jls h (by omega) l0 with l1|⟨l1,l2⟩
   ·rw[l1,bi (by omega),l0];exact .inl rfl
   ·rw[bj (by omega)];refine .inr (.inr ⟨(ay k R bs m).1.1.toNat,l2,?_⟩);have hlt:=l2.lt;have hlen2:=qq7 (i:=(ay k R bs m).1.1.toNat) (k:=k) (c:=c) (R:=R) (bs:=bs);have hp:=jfj (i:=(ay k R bs m).1.1.toNat) (k:=k) (e1:=e+1) (c:=c) t3 h.rl h.rw h.cl h.bl hlt (by omega) he hm;rw[show(((ay k R bs m).1.1.toNat:Nat):Int)=(ay k R bs m).1.1 by omega]at hp;rw[l0,hp,af];dsimp only;rw[hlen2.1,hlen2.2];simp only[decide_true,lf]
  ·rw[gn l0];exact .inr (.inl ⟨_,l0,rfl⟩)
theorem TR.piv{m e vars r k:Nat}{T0:Tb}{c:List ab}{R:List (List ab)}{bs:List Int}(h:TR m e T0 c R bs)(hv:vars≤e)(hk:Ent vars (tb c R bs) k)(hr:Lev m e (tb c R bs) r k)(h0:(rg r k c R bs).2=0):
  TR m e T0 (rg r k c R bs).1.1 (rg r k c R bs).1.2.1 (rg r k c R bs).1.2.2∧tb (rg r k c R bs).1.1 (rg r k c R bs).1.2.1 (rg r k c R bs).1.2.2=(tb c R bs).piv r k:=by
 have hkl:=hk.lt;obtain⟨h1,h2⟩:=jjs h.ti hr.lt (by omega) h0;have hrun:Rn m e vars 1 (fun j=>if j=0 then tb c R bs else(tb c R bs).piv r k) (fun _=>k) (fun _=>r):=by
  refine⟨hv,fun i hi=> ?_,h.bas,h.fea,fun j hj=> ?_,fun j hj=> ?_,fun j hj=> ?_⟩
  ·have:=h.ti.bn i hi;show(gb bs i).toNat<e;omega
  ·obtain rfl:j=0:=by omega
   exact hk
  ·obtain rfl:j=0:=by omega
   exact hr
  ·obtain rfl:j=0:=by omega
   rfl
 obtain⟨a1,a2,a3,a4⟩:=hrun.all 1 (Nat.le_refl 1);simp only[if_neg (show¬(1:Nat)=0 by omega)]at a1 a3 a4;exact⟨⟨h1,by rw[h2];exact a1,by rw[h2];exact a3,by rw[h2];exact h.eqv.trans a4⟩,h2⟩
def jqi(m e:Nat)(T0:Tb)(t3:Int)(s:RS):Prop:=s.2.1=t3∧s.2.2.2.1.length=m∧s.2.2.2.2.length=m∧(s.2.2.1=0→TR m e T0 s.1 s.2.2.2.1 s.2.2.2.2)
def jse(m e vars:Nat)(T0:Tb)(t3:Int)(o:RS⊕(Int×List ab×Int×Int×List (List ab)×List Int)):Prop:=
 match o with
 | .inl s=>s.2.1=t3∧s.2.2.2.1.length=m∧s.2.2.2.2.length=m∧s.2.2.1≠0
 | .inr s=>s.2.2.1=t3∧s.2.2.2.1=0∧TR m e T0 s.2.1 s.2.2.2.2.1 s.2.2.2.2.2∧-1≤s.1∧s.1<vars
theorem jfu{m e vars:Nat}{T0:Tb}{c:List ab}{R:List (List ab)}{bs:List Int}(t3:Int)(h:TR m e T0 c R bs)(hv:vars≤e)(he:e≤60)(hm:m≤100000):
  ∃k c' x R' bs',f9 (vars:Int) c t3 0 R bs=some (k,c',t3,x,R',bs')∧R'.length=m∧bs'.length=m∧(x=0→TR m e T0 c' R' bs' ∧-1≤k∧k<vars):=by
 have hInv:∀s:RS,jqi m e T0 t3 s→
   ∃x,q8f vars s=some x∧jsc (jqi m e T0 t3) (jse m e vars T0 t3) x:=by
  rintro⟨c,t,x,R,bs⟩ ⟨rfl,h1,h2,h3⟩;by_cases hx:x=0
  ·subst hx;have hT:=h3 rfl;rcases jfv (vars:=vars) t hT.ti hv (by omega) hm with e1|⟨k,hk,e1|⟨x,hx,e1⟩|⟨r,hr,e1⟩⟩
   ·exact⟨_,e1,rfl,rfl,hT,by show(-1:Int)≤-1;omega,by show(-1:Int)<vars;omega⟩
   ·have:=hk.lt;exact⟨_,e1,rfl,rfl,hT,by show(-1:Int)≤(k:Int);omega,by show(k:Int)<vars;omega⟩
   ·exact⟨_,e1,rfl,h1,h2,hx⟩
   ·have hl:=qq7 (i:=r) (k:=k) (c:=c) (R:=R) (bs:=bs);exact⟨_,e1,rfl,hl.1.trans h1,hl.2.trans h2,fun h0=>(hT.piv hv hk hr h0).1⟩
  ·refine⟨.done (c,t,x,R,bs),?_,rfl,h1,h2,hx⟩;unfold q8f dh;dsimp only;rw[bg hx]
 have hpow:2 ^ e<2 ^ 61:=Nat.pow_lt_pow_right (by omega) (by omega);have h0:jqi m e T0 t3 (c,t3,0,R,bs):=⟨rfl,h.ti.rl,h.ti.bl,fun _=>h⟩;rcases q37 (step:=q8f vars) (jqi m e T0 t3) (jse m e vars T0 t3) hInv (2 ^ e+1) _ h0 with⟨o,ho,hp⟩|⟨f,f0,f1,f2⟩
 ·have hL:qrk (q8f vars) many (c,t3,0,R,bs)=some o:=q9q ho (by unfold many;omega);have hL:qg (vars:Int) (c,t3,0,R,bs)=some o:=hL;unfold f9;rw[hL,af];cases o with
  |inl s=>
   obtain⟨c',t,x,R',bs'⟩:=s;obtain⟨rfl,p2,p3,p4⟩:=hp;exact⟨-1,c',x,R',bs',rfl,p2,p3,fun e=>absurd e p4⟩
  |inr s=>
   obtain⟨k,c',t,x,R',bs'⟩:=s;obtain⟨rfl,p2,p3,p4,p5⟩:=hp;have p2:x=0:=p2;subst p2;exact⟨k,c',0,R',bs',rfl,p3.ti.rl,p3.ti.bl,fun _=>⟨p3,p4,p5⟩⟩
 ·exfalso;have hstep:∀j,j≤2 ^ e→(f j).2.2.1=0∧TR m e T0 (f j).1 (f j).2.2.2.1 (f j).2.2.2.2:=fun j hj=>by
   have hn:=f2 j (by omega);have hi:=f1 j (by omega);have hz:(f j).2.2.1=0:=by
    refine Classical.byContradiction fun hz=> ?_
    unfold q8f dh at hn;rw[bg hz]at hn;cases hn
   exact⟨hz,hi.2.2.2 hz⟩
  have hkr:∀j,∃k r,j<2 ^ e→Ent vars (tb (f j).1 (f j).2.2.2.1 (f j).2.2.2.2) k∧Lev m e (tb (f j).1 (f j).2.2.2.1 (f j).2.2.2.2) r k∧tb (f (j+1)).1 (f (j+1)).2.2.2.1 (f (j+1)).2.2.2.2=(tb (f j).1 (f j).2.2.2.1 (f j).2.2.2.2).piv r k:=fun j=>by
   by_cases hj:j<2 ^ e
   ·obtain⟨hz,hT⟩:=hstep j (by omega);obtain⟨hz',_⟩:=hstep (j+1) (by omega);have hn:=f2 j (by omega);generalize f (j+1)=s' at*;generalize f j=s at*;obtain⟨c,t,x,R,bs⟩:=s;have hz:x=0:=hz;subst hz;rcases jfv (vars:=vars) t hT.ti hv (by omega) hm with e1|⟨k,hk,e1|⟨x,hx,e1⟩|⟨r,hr,e1⟩⟩
    ·rw[e1]at hn;cases hn
    ·rw[e1]at hn;cases hn
    ·rw[e1]at hn;cases hn
    ·rw[e1]at hn;cases hn;exact⟨k,r,fun _=>⟨hk,hr,(hT.piv hv hk hr hz').2⟩⟩
   ·exact⟨0,0,fun h=>absurd h hj⟩
  have hc:∃K Q:Nat→Nat,∀j,j<2 ^ e→Ent vars (tb (f j).1 (f j).2.2.2.1 (f j).2.2.2.2) (K j)∧Lev m e (tb (f j).1 (f j).2.2.2.1 (f j).2.2.2.2) (Q j) (K j)∧tb (f (j+1)).1 (f (j+1)).2.2.2.1 (f (j+1)).2.2.2.2=(tb (f j).1 (f j).2.2.2.1 (f j).2.2.2.2).piv (Q j) (K j):=
   ⟨fun j=>Classical.choose (hkr j),fun j=>Classical.choose (Classical.choose_spec (hkr j)),fun j hj=>Classical.choose_spec (Classical.choose_spec (hkr j)) hj⟩
  obtain⟨K,Q,hKQ⟩:=hc;have hrn:Rn m e vars (2 ^ e) (fun j=>tb (f j).1 (f j).2.2.2.1 (f j).2.2.2.2) K Q:=by
   obtain⟨_,hT⟩:=hstep 0 (Nat.zero_le _);refine⟨hv,fun i hi=> ?_,hT.bas,hT.fea,fun j hj=>(hKQ j hj).1,fun j hj=>(hKQ j hj).2.1,fun j hj=>(hKQ j hj).2.2⟩;have:=hT.ti.bn i hi;show(gb _ i).toNat<e;omega
  exact Nat.lt_irrefl _ hrn.short
end Go.Proofs.YteljgpepodpebaaGreat
