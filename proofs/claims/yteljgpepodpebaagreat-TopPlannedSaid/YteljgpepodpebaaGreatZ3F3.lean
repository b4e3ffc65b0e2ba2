/-
  Loops that stop at the first error; Dot.
-/
import Derived.Test.YteljgpepodpebaaGreatZ3F2
import Derived.Test.YteljgpepodpebaaGreatZ3X7
set_option linter.all false
namespace Go.Proofs.YteljgpepodpebaaGreat
open Go.K Go.M
theorem qi7{S A E R:Type}{step:S→Option (LR S E R)}(n:Nat)(hn:n<many)(G:Nat→A×Int)(st:Nat→A→S)(d:A→E)(r:A×Int→R)(hG0:(G 0).2=0)(hp:∀i,i<n→(G i).2≠0→G (i+1)=G i)
  (h:∀i,i<n→(G i).2=0→step (st i (G i).1)=some (if(G (i+1)).2=0 then .next (st (i+1) (G (i+1)).1)else .ret (r (G (i+1))))) (hd:(G n).2=0→step (st n (G n).1)=some (.done (d (G n).1))) (s:S) (hs:s=st 0 (G 0).1):
  bm step s=some (if(G n).2=0 then .inl (d (G n).1)else .inr (r (G n))):=by
 subst hs;have hstay:∀k i,i+k=n→(G i).2≠0→G n=G i:=by
  intro k
  induction k with
  |zero=>intro i hi _;rw[show n=i by omega]
  |succ k ih=>
   intro i hi h0;have h1:=hp i (by omega) h0;rw[ih (i+1) (by omega) (by rw[h1];exact h0),h1]
 have key:∀k i,i+k=n→(G i).2=0→∀m,k<m→qrk step m (st i (G i).1)=some (if(G n).2=0 then .inl (d (G n).1)else .inr (r (G n))):=by
  intro k
  induction k with
  |zero=>
   intro i hi h0 m hm;obtain⟨m,rfl⟩:∃q,m=q+1:=⟨m-1,by omega⟩;obtain rfl:i=n:=by omega
   rw[ns,hd h0,if_pos h0];rfl
  |succ k ih=>
   intro i hi h0 m hm;obtain⟨m,rfl⟩:∃q,m=q+1:=⟨m-1,by omega⟩;rw[ns,h i (by omega) h0];by_cases h1:(G (i+1)).2=0
   ·rw[if_pos h1];exact ih (i+1) (by omega) h1 m (by omega)
   ·rw[if_neg h1];have h2:=hstay k (i+1) (by omega) h1;rw[h2,if_neg h1];rfl
 exact key n 0 (by omega) hG0 many hn
def jsc{S E R:Type}(Inv:S→Prop)(post:E⊕R→Prop):LR S E R→Prop
 | .next s=>Inv s
 | .done e=>post (.inl e)
 | .ret r=>post (.inr r)
theorem q37{S E R:Type}{step:S→Option (LR S E R)}(Inv:S→Prop)(post:E⊕R→Prop)(h:∀s,Inv s→∃x,step s=some x∧jsc Inv post x):
  ∀(n:Nat) (s:S),Inv s→(∃o,qrk step n s=some o∧post o)∨∃f:Nat→S,f 0=s∧(∀j,j≤n→Inv (f j))∧∀j,j<n→step (f j)=some (.next (f (j+1)))
 |0,s,hs=> .inr ⟨fun _=>s,rfl,fun _ _=>hs,fun j hj=>by omega⟩
 |n+1,s,hs=>by
  obtain⟨x,hx,hp⟩:=h s hs;rw[ns,q3b hx];cases x with
  |next s' =>
   rcases q37 Inv post h n s' hp with h1|⟨f,f0,f1,f2⟩
   ·exact .inl h1
   ·refine .inr ⟨fun j=>match j with|0=>s|j+1=>f j,rfl,fun j hj=> ?_,fun j hj=> ?_⟩
    ·cases j with
     |zero=>exact hs
     |succ j=>exact f1 j (by omega)
    ·cases j with
     |zero=>show step s=some (.next (f 0));rw[f0];exact hx
     |succ j=>exact f2 j (by omega)
  |done e=>exact .inl ⟨_,rfl,hp⟩
  |ret r=>exact .inl ⟨_,rfl,hp⟩
def e0(e:Int):ab×Int:=((0,0,()),e)
def qb(a b:List ab):Nat→ab×Int
 |0=>((0,1,()),0)
 |n+1=>
  bif decide ((qb a b n).2=0)then
   bif decide ((mg (a.getD n ab.z) (b.getD n ab.z)).2=0)then
    bif decide ((qcc (qb a b n).1 (mg (a.getD n ab.z) (b.getD n ab.z)).1).2=0)then qcc (qb a b n).1 (mg (a.getD n ab.z) (b.getD n ab.z)).1
    else e0 (qcc (qb a b n).1 (mg (a.getD n ab.z) (b.getD n ab.z)).1).2
   else e0 (mg (a.getD n ab.z) (b.getD n ab.z)).2
  else qb a b n
def qc(a b:List ab):ab×Int:=
 bif a.all vB&&b.all vB then
  (bif decide ((1000:Int)<(a.length:Int))then e0 5 else bif decide ((1000:Int)<(b.length:Int))then e0 5 else bif !decide ((a.length:Int)=(b.length:Int))then e0 29 else qb a b a.length)
 else jn7
theorem qe1{a b:List ab}(ha:a.length≤9223372036854775806)(hb:b.length≤9223372036854775806):mq a b=some (qc a b):=by
 unfold mq qc;rw[q7g a ha,q7g b hb,af,af,mc,mc];cases a.all vB with
 |false=>rfl
 |true=>
  cases b.all vB with
  |false=>rfl
  |true=>
   simp only[cond_true,Bool.and_self];by_cases h1:(1000:Int)<(a.length:Int)
   ·simp only[h1,decide_true,cond_true];rfl
   ·by_cases h2:(1000:Int)<(b.length:Int)
    ·simp only[h1,h2,decide_true,decide_false,cond_true,cond_false];rfl
    ·by_cases h3:(a.length:Int)=(b.length:Int)
     ·simp only[h1,h2,h3,decide_true,decide_false,cond_true,cond_false,Bool.not_true];have h:=qi7 (step:=fun s:Int×Int×Int=>qcd (R:=LR (Int×Int×Int) (Int×Int) (ab×Int)) a b (a.length:Int) 0 0 s.1 s.2.1 s.2.2 (fun a' =>some (.next a')) (fun e=>some (.done e)) (fun r=>some (.ret r)))
       a.length (cr (by omega)) (qb a b) (fun i o=>((i:Int),o.1,o.2.1)) (fun o=>(o.1,o.2.1)) (fun x=>x) rfl (fun i _ h0=>by rw[qb,bg h0]) (fun i hi h0=>by
        have hb:i<b.length:=by omega
        unfold qcd;simp(disch:=omega)only[qxs,q23,rs];rw[qb,bu h0];by_cases m0:(mg (a.getD i ab.z) (b.getD i ab.z)).2=0
        ·by_cases m1:(qcc (qb a b i).1 (mg (a.getD i ab.z) (b.getD i ab.z)).1).2=0
         ·have m1' :(qcc ((qb a b i).1.1,(qb a b i).1.2.1,()) (mg (a.getD i ab.z) (b.getD i ab.z)).1).2=0:=m1;simp only[m0,m1,m1',decide_true,cond_true,if_true,am]
         ·have m1' :¬(qcc ((qb a b i).1.1,(qb a b i).1.2.1,()) (mg (a.getD i ab.z) (b.getD i ab.z)).1).2=0:=m1;simp only[m0,m1,m1',decide_true,decide_false,cond_true,cond_false,e0,if_false]
        ·simp only[m0,decide_false,cond_false,e0,if_false,Bool.not_false,cond_true]) (fun _=>by unfold qcd;simp(disch:=omega)only[rs]) (0,0,1) rfl
      have h:q3r a b (a.length:Int) 0 0 (0,0,1)=_:=h;rw[←h3,h,af];by_cases h0:(qb a b a.length).2=0
      ·rw[if_pos h0,g9];refine congrArg some ?_;show((qb a b a.length).1,(0:Int))=qb a b a.length;rw[←h0]
      ·rw[if_neg h0,qtl]
     ·simp only[h1,h2,h3,decide_true,decide_false,cond_true,cond_false,Bool.not_false];rfl
theorem jl9{a b:List ab}(ha:a.length≤9223372036854775806)(hb:b.length≤9223372036854775806):qq8 a b=some (qc a b):=by
 unfold qq8 qc;rw[qpf a ha,qpf b hb,af,af,mc,mc];cases a.all vB with
 |false=>rfl
 |true=>
  cases b.all vB with
  |false=>rfl
  |true=>
   simp only[cond_true,Bool.and_self];by_cases h1:(1000:Int)<(a.length:Int)
   ·simp only[h1,decide_true,cond_true];rfl
   ·by_cases h2:(1000:Int)<(b.length:Int)
    ·simp only[h1,h2,decide_true,decide_false,cond_true,cond_false];rfl
    ·by_cases h3:(a.length:Int)=(b.length:Int)
     ·simp only[h1,h2,h3,decide_true,decide_false,cond_true,cond_false,Bool.not_true];have h:=qi7 (step:=fun s:Int×Int×Int=>zk (R:=LR (Int×Int×Int) (Int×Int) (ab×Int)) a b 0 0 s.1 s.2.1 s.2.2 (fun a' =>some (.next a')) (fun e=>some (.done e)) (fun r=>some (.ret r)))
       a.length (cr (by omega)) (qb a b) (fun i o=>((i:Int),o.1,o.2.1)) (fun o=>(o.1,o.2.1)) (fun x=>x) rfl (fun i _ h0=>by rw[qb,bg h0]) (fun i hi h0=>by
        have hb:i<b.length:=by omega
        unfold zk;simp(disch:=omega)only[jah,qyo,rs];rw[qb,bu h0];by_cases m0:(mg (a.getD i ab.z) (b.getD i ab.z)).2=0
        ·by_cases m1:(qcc (qb a b i).1 (mg (a.getD i ab.z) (b.getD i ab.z)).1).2=0
         ·have m1' :(qcc ((qb a b i).1.1,(qb a b i).1.2.1,()) (mg (a.getD i ab.z) (b.getD i ab.z)).1).2=0:=m1;simp only[m0,m1,m1',decide_true,cond_true,if_true,am]
         ·have m1' :¬(qcc ((qb a b i).1.1,(qb a b i).1.2.1,()) (mg (a.getD i ab.z) (b.getD i ab.z)).1).2=0:=m1;simp only[m0,m1,m1',decide_true,decide_false,cond_true,cond_false,e0,if_false]
        ·simp only[m0,decide_false,cond_false,e0,if_false,Bool.not_false,cond_true]) (fun _=>by unfold zk;simp(disch:=omega)only[rs]) (0,0,1) rfl
      have h:qpb a b 0 0 (0,0,1)=_:=h;show bnd (qpb a b 0 0 (0,0,1)) _=_;rw[h,af];by_cases h0:(qb a b a.length).2=0
      ·rw[if_pos h0,g9];refine congrArg some ?_;show((qb a b a.length).1,(0:Int))=qb a b a.length;rw[←h0]
      ·rw[if_neg h0,qtl]
     ·simp only[h1,h2,h3,decide_true,decide_false,cond_true,cond_false,Bool.not_false];rfl
theorem jbo{a b:ab}(h:(mg a b).2=0):NF a∧NF b∧NF (mg a b).1∧fv (mg a b).1=fv a*fv b:=by
 unfold mg at h⊢;cases hv:vB a&&vB b with
 |false=>rw[hv]at h;exact absurd h (show¬(1:Int)=0 by decide)
 |true=>
  rw[hv]at h;simp only[Bool.and_eq_true]at hv;rcases jag (fv a*fv b)with e|⟨_,h1,h2⟩
  ·rw[cond_true,e]at h;exact absurd h (show¬(6:Int)=0 by decide)
  ·exact⟨dr.1 hv.1,dr.1 hv.2,h1,h2⟩
theorem ji9{a b:ab}(h:(qcc a b).2=0):NF a∧NF b∧NF (qcc a b).1∧fv (qcc a b).1=fv a+fv b:=by
 unfold qcc at h⊢;cases hv:vB a&&vB b with
 |false=>rw[hv]at h;exact absurd h (show¬(1:Int)=0 by decide)
 |true=>
  rw[hv]at h;simp only[Bool.and_eq_true]at hv;rcases jag (fv a+fv b)with e|⟨_,h1,h2⟩
  ·rw[cond_true,e]at h;exact absurd h (show¬(6:Int)=0 by decide)
  ·exact⟨dr.1 hv.1,dr.1 hv.2,h1,h2⟩
theorem jbp{a b:ab}(h:(qba a b).2=0):NF a∧NF b∧NF (qba a b).1∧fv (qba a b).1=fv a-fv b:=by
 unfold qba at h⊢;cases hv:vB a&&vB b with
 |false=>rw[hv]at h;exact absurd h (show¬(1:Int)=0 by decide)
 |true=>
  rw[hv]at h;simp only[Bool.and_eq_true]at hv;rcases jag (fv a-fv b)with e|⟨_,h1,h2⟩
  ·rw[cond_true,e]at h;exact absurd h (show¬(6:Int)=0 by decide)
  ·exact⟨dr.1 hv.1,dr.1 hv.2,h1,h2⟩
theorem jja{a b:ab}(h:(u4 a b).2=0):NF a∧NF b∧NF (u4 a b).1∧fv (u4 a b).1=fv a/fv b:=by
 unfold u4 at h⊢;cases hv:vB a&&vB b with
 |false=>rw[hv]at h;exact absurd h (show¬(1:Int)=0 by decide)
 |true=>
  rw[hv]at h;simp only[Bool.and_eq_true]at hv;rw[cond_true]at h⊢;by_cases h0:b.1=0
  ·rw[bu h0]at h;exact absurd h (show¬(7:Int)=0 by decide)
  ·rw[bg h0]at h⊢;rcases jag (fv a/fv b)with e|⟨_,h1,h2⟩
   ·rw[e]at h;exact absurd h (show¬(6:Int)=0 by decide)
   ·exact⟨dr.1 hv.1,dr.1 hv.2,h1,h2⟩
theorem ji6{a b:List ab}:∀{n:Nat},(qb a b n).2=0→NF (qb a b n).1∧fv (qb a b n).1=d4 n (fun i=>fv (a.getD i ab.z)*fv (b.getD i ab.z))
 |0,_=>⟨nu (by omega) (by omega),nk 0⟩
 |n+1,h=>by
  have h1:(qb a b n).2=0:=by
   refine Classical.byContradiction fun h1=> ?_
   rw[qb,bg h1]at h;exact h1 h
  obtain⟨i1,i2⟩:=ji6 h1;rw[qb,bu h1]at h⊢;by_cases h2:(mg (a.getD n ab.z) (b.getD n ab.z)).2=0
  ·rw[bu h2]at h⊢;by_cases h3:(qcc (qb a b n).1 (mg (a.getD n ab.z) (b.getD n ab.z)).1).2=0
   ·rw[bu h3]at h⊢;obtain⟨_,_,m3,m4⟩:=jbo h2;obtain⟨_,_,a3,a4⟩:=ji9 h3;refine⟨a3,?_⟩;rw[a4,m4,i2];rfl
   ·rw[bg h3]at h;exact absurd h h3
  ·rw[bg h2]at h;exact absurd h h2
theorem qum{a b:List ab}(h:(qc a b).2=0):a.length=b.length∧a.all vB=true∧b.all vB=true∧NF (qc a b).1∧fv (qc a b).1=d4 a.length (fun i=>fv (a.getD i ab.z)*fv (b.getD i ab.z)):=by
 unfold qc at h⊢;cases hv:a.all vB&&b.all vB with
 |false=>rw[hv]at h;exact absurd h (show¬(1:Int)=0 by decide)
 |true=>
  rw[hv]at h;simp only[Bool.and_eq_true]at hv;rw[cond_true]at h⊢;by_cases h1:(1000:Int)<(a.length:Int)
  ·rw[bi h1]at h;exact absurd h (show¬(5:Int)=0 by decide)
  ·rw[bj (by omega)]at h⊢;by_cases h2:(1000:Int)<(b.length:Int)
   ·rw[bi h2]at h;exact absurd h (show¬(5:Int)=0 by decide)
   ·rw[bj (by omega)]at h⊢;by_cases h3:(a.length:Int)=(b.length:Int)
    ·rw[cm h3]at h⊢;obtain⟨i1,i2⟩:=ji6 h;exact⟨by omega,hv.1,hv.2,i1,i2⟩
    ·rw[gn h3]at h;exact absurd h (show¬(29:Int)=0 by decide)
end Go.Proofs.YteljgpepodpebaaGreat
