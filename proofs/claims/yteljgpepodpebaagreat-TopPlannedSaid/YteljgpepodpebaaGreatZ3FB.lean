/-
  The simplex method: it ends with some answer.
-/
import Derived.Test.YteljgpepodpebaaGreatZ3FA
set_option linter.all false
namespace Go.Proofs.YteljgpepodpebaaGreat
open Go.K Go.M
structure AI (m e last : Nat) (c : List ab) (R : List (List ab)) (bs : List Int) : Prop where
 ti : TI m e c R bs
 bas : Bas m (e + 1) (tb c R bs)
 fea : ∀ i, i < m → 0 ≤ (tb c R bs).A i e
 art : ∀ i, i < m → (last : Int) ≤ gb bs i → (tb c R bs).A i e = 0
theorem AI.piv{m e last i j:Nat}{c:List ab}{R:List (List ab)}{bs:List Int}(h:AI m e last c R bs)(hi:i<m)(hb:(last:Int)≤gb bs i)(hj:j<last)(hle:last≤e)(hA:(tb c R bs).A i j≠0)(h0:(rg i j c R bs).2=0):
  AI m e last (rg i j c R bs).1.1 (rg i j c R bs).1.2.1 (rg i j c R bs).1.2.2:=by
 obtain⟨p1,p2⟩:=jjs h.ti hi (show j<e by omega) h0;have hai:=h.art i hi hb;have hnb:¬(tb c R bs).isB m j:=fun⟨l,hl,e1⟩=>by
  by_cases e2:l=i
  ·subst e2;have e1:(gb bs l).toNat=j:=e1;omega
  ·have:=h.bas.zero l i hl hi (fun e=>e2 e.symm);rw[e1]at this;exact hA this
 have hB:=h.bas.piv hi (show j<e+1 by omega) hA hnb;have hcol:∀l,((tb c R bs).piv i j).A l e=if l=i then 0 else(tb c R bs).A l e:=fun l=>by
  simp only[Tb.piv];rw[hai];split
  ·rw[Rat.div_def,Rat.zero_mul]
  ·rw[Rat.div_def,Rat.zero_mul];grind
 refine⟨p1,by rw[p2];exact hB,fun l hl=> ?_,fun l hl hbl=> ?_⟩
 ·rw[p2,hcol];split
  ·exact Rat.le_refl
  ·exact h.fea l hl
 ·rw[p2,hcol];split
  ·rfl
  ·rename_i e1;refine h.art l hl ?_;have hB2:(tb (rg i j c R bs).1.1 (rg i j c R bs).1.2.1 (rg i j c R bs).1.2.2).B l=((tb c R bs).piv i j).B l:=by rw[p2]
   have hB2:(gb (rg i j c R bs).1.2.2 l).toNat=if l=i then j else(gb bs l).toNat:=hB2
   rw[if_neg e1]at hB2;have:=(h.ti.bn l hl).1;omega
abbrev VS:=Int×List ab×Int×Int×List Int×List (List ab)
abbrev VE:=List ab×Int×Int×List (List ab)×List Int
def jy7(m e last:Nat)(s:VS):Prop:=∃(i:Nat) (c:List ab) (R:List (List ab)) (bs:List Int),s=((i:Int),c,(last:Int),0,bs,R)∧i≤m∧AI m e last c R bs
def jm9(m e last:Nat)(o:VE⊕(de×Int)):Prop:=(∃c R bs,o= .inl (c,(last:Int),0,R,bs)∧AI m e last c R bs)∨∃x,o= .inr ((0,[],[],[],(0,0,()),()),x)
theorem jn2{m e last:Nat}{c:List ab}{R:List (List ab)}{bs:List Int}{x1 x2:Int}{x3:List Bool}{x4:List ab}{x5:List (List ab)}{x6:List Int}{x7:List ab}{x8:Int}{x9 xa xb:List ab}{xc xd:Int}(h:AI m e last c R bs)(hle:last≤e)(he:e≤1000)(hm:m≤1000):
  ∃o,qjz x1 x2 x3 (bs.length:Int) x4 x5 x6 x7 x8 x9 xa xb xc xd (0,c,(last:Int),0,bs,R)=some o∧jm9 m e last o:=by
 have hbl:=h.ti.bl;refine fy (step:=fun s:VS=>rb (R:=LR VS VE (de×Int)) x1 x2 x3 (bs.length:Int) x4 x5 x6 x7 x8 x9 xa xb xc xd s.1 s.2.1 s.2.2.1 s.2.2.2.1 s.2.2.2.2.1 s.2.2.2.2.2 (fun a' =>some (.next a')) (fun e=>some (.done e)) (fun r=>some (.ret r)))
  (jy7 m e last) (fun s=>m-s.1.toNat) (jm9 m e last) _ ⟨0,c,R,bs,rfl,by omega,h⟩ (by show m-(0:Int).toNat<many;have:=cr (n:=m) (by omega);omega) ?_
 rintro s ⟨i,c,R,bs',rfl,hi,hI⟩;unfold rb;dsimp only;have hti:=hI.ti;have hbl' :=hti.bl;have hrl:=hti.rl;by_cases hlt:i<m
 ·have hnx:∀(c' :List ab) (R' :List (List ab)) (b' :List Int),AI m e last c' R' b' →∃x,ai (cg .i64 ((i:Int)+1)) (some (LR.next ((i:Int)+1,c',(last:Int),0,b',R')):Option (LR VS VE (de×Int)))=some x∧qxr (jy7 m e last) (fun s=>m-s.1.toNat) (jm9 m e last) (m-(i:Int).toNat) x:=fun c' R' b' h' =>by
   rw[bk (by omega) (by omega),am];refine⟨_,rfl,⟨i+1,c',R',b',rfl,by omega,h'⟩,?_⟩;show m-((i+1:Nat):Int).toNat<m-(i:Int).toNat;omega
  rw[bi (by omega),ao (by omega) (by omega),ao (by omega) (by omega)];simp only[Int.toNat_natCast];by_cases hb:gb bs' i<(last:Int)
  ·rw[bi (show bs'.getD i 0<(last:Int)from hb)];exact hnx c R bs' hI
  ·have hri:=hti.rw i hlt;have hri' :(R.getD i []).length=e+1:=hri;rw[bj (show(last:Int)≤bs'.getD i 0 by have:¬bs'.getD i 0<(last:Int):=hb;omega),ao (by omega) (by omega),ao (by omega) (by omega),q2o (by omega) (by omega) (by omega)];have hlen:((R.getD i []).take last).length=last:=by rw[List.length_take];omega
   have hidx:=jje (fun a:ab=> !decide (a.1=0)) ((R.getD i []).take last);have hat:=jjd (q:=fun a:ab=> !decide (a.1=0)) (l:=(R.getD i []).take last) ab.z;rw[joj _ (by omega),af];by_cases hk:0≤qnn (fun a:ab=> !decide (a.1=0)) ((R.getD i []).take last)
   ·rw[lz hk];obtain⟨a1,a2,_⟩:=hat hk;generalize qnn (fun a:ab=> !decide (a.1=0)) ((R.getD i []).take last)=ki at*;obtain⟨j,rfl⟩:∃j:Nat,ki=(j:Int):=⟨ki.toNat,by omega⟩;simp only[Bool.not_eq_true',decide_eq_false_iff_not]at a2;simp only[Int.toNat_natCast]at a1 a2;rw[hlen]at a1;rw[show((R.getD i []).take last).getD j ab.z=gz (ci R i) j from jdm a1]at a2;have hA:(tb c R bs').A i j≠0:=fun e1=>by
     exact a2 ((qoz (hti.rn i j hlt (by omega))).2 e1)
    rw[jfj (last:Int) hti.rl hti.rw hti.cl hti.bl hlt (show j<e+1 by omega) (by omega) (by omega),af];have hl2:=qq7 (i:=i) (k:=j) (c:=c) (R:=R) (bs:=bs');dsimp only;rw[hl2.1,hl2.2];simp only[decide_true,lf];by_cases h0:(rg i j c R bs').2=0
    ·rw[cm h0,h0];exact hnx _ _ _ (hI.piv hlt (by omega) a1 hle hA h0)
    ·rw[gn h0];exact⟨_,rfl, .inr ⟨_,rfl⟩⟩
   ·rw[wd (by omega)];exact hnx c R bs' hI
 ·rw[bj (by omega)];exact⟨_,rfl, .inl ⟨c,R,bs',rfl,hI⟩⟩
theorem jgz(a b:ab): -1073741824≤(qba a b).1.1∧(qba a b).1.1≤1073741824:=by
 by_cases h:(qba a b).2=0
 ·have:=(jbp h).2.2.1;exact⟨this.n0,this.n1⟩
 ·unfold qba at h⊢;cases hv:vB a&&vB b with
  |false=>exact⟨by show(-1073741824:Int)≤0;omega,by show(0:Int)≤_;omega⟩
  |true=>
   rw[hv]at h;rcases jag (fv a-fv b)with e|⟨e,_⟩
   ·rw[cond_true,e];exact⟨by show(-1073741824:Int)≤0;omega,by show(0:Int)≤_;omega⟩
   ·exact absurd e h
abbrev MS:=Int×List ab×Int×Int×List (List ab)×List Int×List ab
abbrev ME:=List ab×Int×Int×List (List ab)×List Int×List ab
theorem jjo{m last:Nat}{turned:List Bool}{c:List ab}{R:List (List ab)}{bs:List Int}(k x:Int)(ht:turned.length=m)(hm:m≤1000)(hl:last≤1000)(hc:last+m≤c.length):
  ∃y ys,ew turned k c (last:Int) x R bs=some (c,(last:Int),y,R,bs,ys)∧ys.length=m:=by
 obtain⟨o,ho,hp⟩:=fy (step:=fun s:MS=>fk (R:=LR MS ME ME) k turned (turned.length:Int) s.1 s.2.1 s.2.2.1 s.2.2.2.1 s.2.2.2.2.1 s.2.2.2.2.2.1 s.2.2.2.2.2.2 (fun a' =>some (.next a')) (fun e=>some (.done e)) (fun r=>some (.ret r)))
  (fun s=>∃(i:Nat) (y:Int) (ys:List ab),s=((i:Int),c,(last:Int),y,R,bs,ys)∧i≤m∧ys.length=i) (fun s=>m-s.1.toNat) (fun o=>∃y ys,o= .inl (c,(last:Int),y,R,bs,ys)∧ys.length=m) (0,c,(last:Int),x,R,bs,[]) ⟨0,x,[],rfl,by omega,rfl⟩ (by show m-(0:Int).toNat<many;have:=cr (n:=m) (by omega);omega) (by
   rintro s ⟨i,y,ys,rfl,hi,hy⟩;unfold fk;dsimp only;by_cases hlt:i<m
   ·rw[bi (by omega),ao (by omega) (by omega),ao (by omega) (by omega)];unfold c9;rw[af,bk (by omega) (by omega),ao (by omega) (by omega),ao (by omega) (by omega),q25,af];have hsm:=jgz (k,1,()) (c.getD ((last:Int)+(i:Int)).toNat ab.z);generalize qba (k,1,()) (c.getD ((last:Int)+(i:Int)).toNat ab.z)=q at*;obtain⟨y',hn⟩:∃y',bp q.1 q.2 c (last:Int) y R bs=some (q.1,c,(last:Int),y',R,bs):=by
     unfold bp;cases decide (y=0)with
     |true=>exact⟨_,rfl⟩
     |false=>exact⟨_,rfl⟩
    rw[hn,af];simp only[decide_true,lf];have hnx:∀z:ab,∃x,ai (room (ys.length+1) 16) (ai (cg .i64 ((i:Int)+1)) (some (LR.next ((i:Int)+1,c,(last:Int),y',R,bs,ys++[z])):Option (LR MS ME ME)))=some x∧qxr (fun s:MS=>∃(i:Nat) (y:Int) (ys:List ab),s=((i:Int),c,(last:Int),y,R,bs,ys)∧i≤m∧ys.length=i) (fun s=>m-s.1.toNat) (fun o:ME⊕ME=>∃y ys,o= .inl (c,(last:Int),y,R,bs,ys)∧ys.length=m) (m-(i:Int).toNat) x:=fun z=>by
     rw[o4 (by omega) (by omega),bk (by omega) (by omega),am];refine⟨_,rfl,⟨i+1,y',_,rfl,by omega,by simp[hy]⟩,?_⟩;show m-((i+1:Nat):Int).toNat<m-(i:Int).toNat;omega
    cases turned.getD (i:Int).toNat false with
    |true=>
     rw[cond_true,qoy (by omega) (by omega),af];exact hnx _
    |false=>exact hnx _
   ·rw[bj (by omega)];exact⟨_,rfl,y,ys,rfl,by omega⟩)
 obtain⟨y,ys,rfl,hy⟩:=hp;have ho:oa k turned (turned.length:Int) (0,c,(last:Int),x,R,bs,[])=_:=ho;refine⟨y,ys,?_,hy⟩;unfold ew;rw[ho,af];rfl
theorem jmz{m e n:Nat}{c:List ab}{R:List (List ab)}{bs:List Int}(t3 x:Int)(h:RI m e R bs)(hn:n<40)(he:e≤1000)(hm:m≤1000):∃xs,lj (R,c,bs,t3,x,()) (n:Int)=some xs∧xs.length=n:=by
 obtain⟨rl,rw',rn,bl,bn,_,_⟩:=h;obtain⟨o,ho,hp⟩:=fy (step:=fun s:Int×List ab=>jh (R:=LR (Int×List ab) (List ab) (List ab)) (R,c,bs,t3,x,()) (n:Int) bs (bs.length:Int) s.1 s.2 (fun a' =>some (.next a')) (fun e=>some (.done e)) (fun r=>some (.ret r)))
  (fun s=>∃(i:Nat) (xs:List ab),s=((i:Int),xs)∧i≤m∧xs.length=n) (fun s=>m-s.1.toNat) (fun o=>∃xs,o= .inl xs∧xs.length=n) (0,List.replicate n (0,1,())) ⟨0,_,rfl,by omega,List.length_replicate⟩ (by show m-(0:Int).toNat<many;have:=cr (n:=m) (by omega);omega) (by
   rintro s ⟨i,xs,rfl,hi,hx⟩;unfold jh;dsimp only;by_cases hlt:i<m
   ·have hnx:∀z:List ab,z.length=n→∃x,ai (cg .i64 ((i:Int)+1)) (some (LR.next ((i:Int)+1,z)):Option (LR (Int×List ab) (List ab) (List ab)))=some x∧qxr (fun s:Int×List ab=>∃(i:Nat) (xs:List ab),s=((i:Int),xs)∧i≤m∧xs.length=n) (fun s=>m-s.1.toNat) (fun o:List ab⊕List ab=>∃xs,o= .inl xs∧xs.length=n) (m-(i:Int).toNat) x:=fun z hz=>by
     rw[bk (by omega) (by omega),am];refine⟨_,rfl,⟨i+1,z,rfl,by omega,hz⟩,?_⟩;show m-((i+1:Nat):Int).toNat<m-(i:Int).toNat;omega
    have hb:=bn i hlt;have hb' :0≤bs.getD i 0∧bs.getD i 0<e:=hb;have hr' :(R.getD i []).length=e+1:=rw' i hlt;rw[bi (by omega),ao (by omega) (by omega),ao (by omega) (by omega)];simp only[Int.toNat_natCast];by_cases hbn:bs.getD i 0<(n:Int)
    ·rw[bi hbn,ao (by omega) (by omega),ao (by omega) (by omega),ao (by omega) (by omega),bk (by omega) (by omega),ao (by omega) (by omega),ao (by omega) (by omega),ao (by omega) (by omega),ao (by omega) (by omega)];exact hnx _ (by simp[hx])
    ·rw[bj (by omega)];exact hnx _ hx
   ·rw[bj (by omega)];exact⟨_,rfl,xs,rfl,hx⟩)
 obtain⟨xs,rfl,hx⟩:=hp;have ho:v4 (R,c,bs,t3,x,()) (n:Int) bs (bs.length:Int) (0,List.replicate n (0,1,()))=_:=ho;refine⟨xs,?_,hx⟩;unfold lj;rw[qgi hn,af,ao (by omega) (by omega)];dsimp only;rw[ho];rfl
theorem jpl{m e n k:Nat}{c x:List ab}{R:List (List ab)}{bs:List Int}{x1:Int}{x2 x3 x4:List ab}{x5 x6 t3 y:Int}{ray:List ab}(h:RI m e R bs)(hr:ray.length=n)(hk:k<e+1)(he:e≤1000)(hm:m≤1000)(hn:n≤1000):
  ∃xs:List ab,tw (n:Int) (k:Int) x x1 x2 x3 x4 x5 x6 R c bs t3 y ray=some (.inr ((3,x,[],xs,(0,0,()),()),0))∧xs.length=n:=by
 obtain⟨rl,rw',rn,bl,bn,_,_⟩:=h;obtain⟨o,ho,hp⟩:=fy (step:=fun s:Int×List ab=>rc (R:=LR (Int×List ab) (List ab) (de×Int)) (n:Int) (k:Int) x bs (bs.length:Int) x1 x2 x3 x4 x5 x6 R c bs t3 y s.1 s.2 (fun a' =>some (.next a')) (fun e=>some (.done e)) (fun r=>some (.ret r)))
  (fun s=>∃(i:Nat) (xs:List ab),s=((i:Int),xs)∧i≤m∧xs.length=n) (fun s=>m-s.1.toNat) (fun o=>∃xs,o= .inl xs∧xs.length=n) (0,ray) ⟨0,_,rfl,by omega,hr⟩ (by show m-(0:Int).toNat<many;have:=cr (n:=m) (by omega);omega) (by
   rintro s ⟨i,xs,rfl,hi,hx⟩;unfold rc;dsimp only;by_cases hlt:i<m
   ·have hnx:∀z:List ab,z.length=n→∃x,ai (cg .i64 ((i:Int)+1)) (some (LR.next ((i:Int)+1,z)):Option (LR (Int×List ab) (List ab) (de×Int)))=some x∧qxr (fun s:Int×List ab=>∃(i:Nat) (xs:List ab),s=((i:Int),xs)∧i≤m∧xs.length=n) (fun s=>m-s.1.toNat) (fun o:List ab⊕(de×Int)=>∃xs,o= .inl xs∧xs.length=n) (m-(i:Int).toNat) x:=fun z hz=>by
     rw[bk (by omega) (by omega),am];refine⟨_,rfl,⟨i+1,z,rfl,by omega,hz⟩,?_⟩;show m-((i+1:Nat):Int).toNat<m-(i:Int).toNat;omega
    have hb:=bn i hlt;have hb' :0≤bs.getD i 0∧bs.getD i 0<e:=hb;have hr' :(R.getD i []).length=e+1:=rw' i hlt;have hnf:=rn i k hlt hk;have h1:=hnf.n0;have h2:=hnf.n1;rw[bi (by omega),ao (by omega) (by omega),ao (by omega) (by omega)];simp only[Int.toNat_natCast];by_cases hbn:bs.getD i 0<(n:Int)
    ·rw[bi hbn,ao (by omega) (by omega),ao (by omega) (by omega),ao (by omega) (by omega),ao (by omega) (by omega),qoy (a:=(R.getD i []).getD k ab.z) (show-9223372036854775807≤(gz (ci R i) k).1 by omega) (show(gz (ci R i) k).1≤9223372036854775807 by omega),af,ao (by omega) (by omega),ao (by omega) (by omega)];exact hnx _ (by simp[hx])
    ·rw[bj (by omega)];exact hnx _ hx
   ·rw[bj (by omega)];exact⟨_,rfl,xs,rfl,hx⟩)
 obtain⟨xs,rfl,hx⟩:=hp;have ho:qj0 (n:Int) (k:Int) x bs (bs.length:Int) x1 x2 x3 x4 x5 x6 R c bs t3 y (0,ray)=_:=ho;refine⟨xs,?_,hx⟩;unfold tw qal;rw[ho,af];rfl
end Go.Proofs.YteljgpepodpebaaGreat
