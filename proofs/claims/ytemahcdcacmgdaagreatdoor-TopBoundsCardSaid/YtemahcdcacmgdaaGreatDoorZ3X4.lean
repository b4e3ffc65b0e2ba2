/-
  Solutions of least support: how great their numbers can be. No program is named.
-/
import Derived.Test.YtemahcdcacmgdaaGreatDoorZ3X3
set_option linter.all false
namespace Go.M
open Go.K
def fac:Nat→Int
 |0=>1
 |n+1=>((n+1:Nat):Int)*fac n
theorem q6o:∀n,1≤fac n
 |0=>Int.le_refl _
 |n+1=>by
  have h:=q6o n;have:1*fac n≤((n+1:Nat):Int)*fac n:=Int.mul_le_mul_of_nonneg_right (by omega) (by omega);unfold fac;omega
theorem jsq(n:Nat):fac n≤fac (n+1):=by
 have h:=q6o n;have:1*fac n≤((n+1:Nat):Int)*fac n:=Int.mul_le_mul_of_nonneg_right (by omega) (by omega);show fac n≤((n+1:Nat):Int)*fac n;omega
theorem jsp{a b:Nat}(h:a≤b):fac a≤fac b:=by
 obtain⟨k,rfl⟩:=Nat.le.dest h
 induction k with
 |zero=>exact Int.le_refl _
 |succ k ih=>exact Int.le_trans (ih (by omega)) (jsq _)
theorem j5k(j:Nat): -1≤pm j∧pm j≤1:=by unfold pm;split<;>omega
theorem jfd:∀(n:Nat) (A:Nat→Nat→Int),(∀i j,-1≤A i j∧A i j≤1)→-fac n≤det n A∧det n A≤fac n
 |0,A,_=>by simp[fac,det]
 |n+1,A,h=>by
  unfold det fac;refine jal (n+1) fun j hj=> ?_
  have h1:=qcq (a:=1) (b:=1) (j5k j) (h 0 j);have h2:=jfd n (fh A j) fun i k=>h (i+1) (skip j k)
  have h3:=qcq (a:=1) (b:=fac n) (x:=pm j*A 0 j) (by omega) h2;omega
theorem q21:∀n,au (fun _=>(1:Int)) n=n
 |0=>rfl
 |n+1=>by rw[au,q21 n];omega
theorem jlj{q:Nat→Nat}{k C:Nat}(h:Inj q k C):k≤C:=by
 have:=jnh (f:=fun _=>1) h fun _ _=>by omega
 rw[q21,q21]at this;omega
theorem jd6{n:Nat}{q:Nat→Nat}:∀(k:Nat) (f:Nat→Int),Inj q k n→(∀i,i<n→f i≠0→∃a,a<k∧q a=i)→au (fun a=>f (q a)) k=au f n
 |0,f,_,h=>by
  refine Eq.symm (tx fun i hi=> ?_);apply Classical.byContradiction;intro hne;obtain⟨a,ha,_⟩:=h i hi hne;omega
 |k+1,f,hI,h=>by
  have ih:=jd6 k (fun j=>if j=q k then 0 else f j) hI.pre fun i hi hne=>by
   by_cases e:i=q k
   ·rw[if_pos e]at hne;exact absurd rfl hne
   ·rw[if_neg e]at hne;obtain⟨a,ha,hq⟩:=h i hi hne;refine⟨a,?_,hq⟩;by_cases e2:a=k
    ·subst e2;exact absurd hq.symm e
    ·omega
  rw[←jam (f:=f) (hI.1 k (by omega)),←ih,au];congr 1;refine bu fun a ha=> ?_
  show f (q a)=if q a=q k then 0 else f (q a)
  rw[if_neg];intro e;have:=hI.2 a k (by omega) (by omega) e;omega
section
variable {n c : Nat} {A : Nat → Nat → Int} {y : Nat → Int}
def jg9(n c:Nat)(A:Nat→Nat→Int)(y:Nat→Int)(r:Nat)(q p:Nat→Nat):Prop:=
 (∀a,a<r→q a<n∧y (q a)≠0)∧(∀b,b<r→p b<c)∧det r (fun a b=>A (q b) (p a))≠0
theorem jg9.p{r:Nat}{q p:Nat→Nat}(h:jg9 n c A y r q p):Inj p r c:=by
 refine⟨h.2.1,fun a b ha hb e=> ?_⟩;apply Classical.byContradiction;intro hne;exact h.2.2 ((q7w r).eq' ha hb hne (by funext k;show A (q k) (p a)=A (q k) (p b);rw[e]))
theorem jg9.q{r:Nat}{q p:Nat→Nat}(h:jg9 n c A y r q p):Inj q r n:=by
 refine⟨fun a ha=>(h.1 a ha).1,fun a b ha hb e=> ?_⟩;apply Classical.byContradiction;intro hne;exact h.2.2 ((qxx r).eq' (v:=fun b a=>A (q b) (p a)) ha hb hne (by funext k;show A (q a) (p k)=A (q b) (p k);rw[e]))
theorem jtp:∀(k r:Nat),c+1≤r+k→(∃q p,jg9 n c A y r q p)→∃r',(∃q p,jg9 n c A y r' q p)∧∀q p,¬jg9 n c A y (r' +1) q p:=by
 intro k
 induction k with
 |zero=>
  intro r hk ⟨q,p,h⟩;have:=jlj h.p;omega
 |succ k ih=>
  intro r hk h;by_cases e:∃q p,jg9 n c A y (r+1) q p
  ·exact ih (r+1) (by omega) e
  ·exact⟨r,h,fun q p h1=>e ⟨q,p,h1⟩⟩
theorem jqd(hA:∀i j,-1≤A i j∧A i j≤1)(hy:qts n c A y)(hP:qtt n y){R:Nat}(hR:c≤R∨n≤R+1):∀k,k<n→y k≤fac R:=by
 obtain⟨r,⟨q,p,hQ⟩,hmax⟩:=jtp (n:=n) (c:=c) (A:=A) (y:=y) (c+1) 0 (by omega) ⟨fun _=>0,fun _=>0,fun a ha=>by omega,fun a ha=>by omega,by simp[det]⟩;have hp:=hQ.p;have hq:=hQ.q;have hex:∃i,i<n∧y i≠0∧∀a,a<r→q a≠i:=by
  apply Classical.byContradiction;intro hne;have hcov:∀i,i<n→y i≠0→∃a,a<r∧q a=i:=by
   intro i hi hyi;apply Classical.byContradiction;intro h2;exact hne ⟨i,hi,hyi,fun a ha e=>h2 ⟨a,ha,e⟩⟩
  have h0:=jpn hQ.2.2 (x:=fun s=>y (q s)) fun u hu=>by
   show au (fun s=>y (q s)*A (q s) (p u)) r=0;rw[jd6 r (fun i=>y i*A i (p u)) hq fun i hi h=>hcov i hi fun e=>h (by rw[e,Int.zero_mul])];exact hy.1.2 (p u) (hQ.2.1 u hu)
  obtain⟨i,hi,h⟩:=hy.2.1;obtain⟨a,ha,e⟩:=hcov i hi h;exact h (e▸h0 a ha)
 obtain⟨i,hi,hyi,hiq⟩:=hex;have hrn:r+1≤n:=by
  refine jlj (q:=fun a=>if a<r then q a else i) ⟨fun b hb=> ?_,fun a b ha hb e=> ?_⟩
  ·show(if b<r then q b else i)<n;split
   ·exact hq.1 b (by assumption)
   ·exact hi
  ·simp only at e;by_cases h1:a<r
   ·by_cases h2:b<r
    ·rw[if_pos h1,if_pos h2]at e;exact hq.2 a b h1 h2 e
    ·rw[if_pos h1,if_neg h2]at e;exact absurd e (hiq a h1)
   ·by_cases h2:b<r
    ·rw[if_neg h1,if_pos h2]at e;exact absurd e.symm (hiq b h2)
    ·omega
 have hrR:r≤R:=by have:=jlj hp;omega
 let B:Nat→Nat→Int:=fun a b=>A (q b) (p a)
 let d:Int:=det r B;let m:Nat→Int:=fun s=>det r (je9 B s fun a=>A i (p a))
 let z:Nat→Int:=fun k=>(if k=i then d else 0)-au (fun s=>if k=q s then m s else 0) r
 have hd: -fac r≤d∧d≤fac r:=jfd r B fun a b=>hA _ _
 have hm:∀s,-fac r≤m s∧m s≤fac r:=fun s=>jfd r _ fun a b=>by
  unfold je9;split
  ·exact hA _ _
  ·exact hA _ _
 have hfr:=q6o r;have zi:z i=d:=by
  show(if i=i then d else 0)-au (fun s=>if i=q s then m s else 0) r=d;rw[if_pos rfl,tx fun s hs=>if_neg fun e=>hiq s hs e.symm];omega
 have zq:∀s,s<r→z (q s)= -m s:=by
  intro s hs;show(if q s=i then d else 0)-au (fun t=>if q s=q t then m t else 0) r= -m s;rw[if_neg (hiq s hs),qex (i:=s) hs fun t ht hne=>if_neg fun e=>hne (hq.2 s t hs ht e).symm,if_pos rfl];omega
 have z0:∀k,k≠i→(∀s,s<r→q s≠k)→z k=0:=by
  intro k hk h;show(if k=i then d else 0)-au (fun t=>if k=q t then m t else 0) r=0;rw[if_neg hk,tx fun t ht=>if_neg fun e=>h t ht e.symm];rfl
 have zall:∀k,(k=i∨(∃s,s<r∧q s=k))∨z k=0:=by
  intro k;by_cases e1:k=i
  ·exact .inl (.inl e1)
  ·by_cases e2:∃s,s<r∧q s=k
   ·exact .inl (.inr e2)
   ·exact .inr (z0 k e1 fun s hs e=>e2 ⟨s,hs,e⟩)
 have zb:∀k,-fac r≤z k∧z k≤fac r:=by
  intro k;rcases zall k with(rfl|⟨s,hs,rfl⟩)|e
  ·rw[zi];exact hd
  ·rw[zq s hs];have:=hm s;omega
  ·rw[e];omega
 have zs:Sup n z y:=by
  intro k hk hz;rcases zall k with(rfl|⟨s,hs,rfl⟩)|e
  ·exact hyi
  ·exact(hQ.1 s hs).2
  ·exact absurd e hz
 have zr:∀j,j<c→au (fun k=>z k*A k j) n=0:=by
  intro j hj;have e0:det (r+1) (q7c r B (fun a=>A i (p a)) (fun s=>A (q s) j) (A i j))=0:=by
   apply Classical.byContradiction;intro hne;apply hmax (fun a=>if a<r then q a else i) (fun b=>if b<r then p b else j);refine⟨fun a ha=> ?_,fun b hb=> ?_,?_⟩
   ·show(if a<r then q a else i)<n∧y (if a<r then q a else i)≠0;split
    ·exact hQ.1 a (by assumption)
    ·exact⟨hi,hyi⟩
   ·show(if b<r then p b else j)<c;split
    ·exact hQ.2.1 b (by assumption)
    ·exact hj
   ·rw[xz (r+1) (B:=q7c r B (fun a=>A i (p a)) (fun s=>A (q s) j) (A i j)) fun a b ha hb=> ?_]
    ·exact hne
    ·unfold q7c;by_cases h1:a=r
     ·by_cases h2:b=r
      ·simp[h1,h2]
      ·have:b<r:=by omega
       simp[h1,h2,this]
     ·have h1' :a<r:=by omega
      by_cases h2:b=r
      ·simp[h1,h2,h1']
      ·have:b<r:=by omega
       simp[h1,h2,h1',this,B]
  rw[jk1]at e0;have e1:au (fun k=>z k*A k j) n=au (fun k=>(if k=i then d else 0)*A k j) n-au (fun s=>m s*A (q s) j) r:=by
   have e2:au (fun s=>m s*A (q s) j) r=au (fun k=>au (fun s=>(if k=q s then m s else 0)*A k j) r) n:=by
    rw[←jd5 (fun s k=>(if k=q s then m s else 0)*A k j) r n];refine bu fun s hs=> ?_
    rw[qex (i:=q s) (hq.1 s hs) fun k hk hne=>by rw[if_neg hne,Int.zero_mul],if_pos rfl]
   rw[e2];have:∀N,au (fun k=>z k*A k j) N=au (fun k=>(if k=i then d else 0)*A k j) N-au (fun k=>au (fun s=>(if k=q s then m s else 0)*A k j) r) N:=by
    intro N
    induction N with
    |zero=>rfl
    |succ N ih=>
     simp only[au];rw[ih,jq6 (A N j)];show _+((if N=i then d else 0)-au (fun s=>if N=q s then m s else 0) r)*A N j=_;rw[Int.sub_mul];omega
   exact this n
  rw[e1,qex (i:=i) hi fun k hk hne=>by rw[if_neg hne,Int.zero_mul],if_pos rfl];have e3:au (fun s=>m s*A (q s) j) r=au (fun s=>A (q s) j*det r (je9 B s fun a=>A i (p a))) r:=bu fun s _=>Int.mul_comm _ _
  rw[e3,Int.mul_comm d];exact e0
 obtain⟨t,ht⟩:=jno hy hP zr zs;have ht0:t≠0:=by
  intro e;have:=ht i hi;rw[zi,e,Int.zero_mul]at this;exact hQ.2.2 this
 intro k hk;have h1:=zb k;rw[ht k hk]at h1;have h2:=hy.1.1 k hk;have h3:fac r≤fac R:=jsp hrR;by_cases ht1:0<t
 ·have:1*y k≤t*y k:=Int.mul_le_mul_of_nonneg_right (by omega) h2;omega
 ·have:1*y k≤-t*y k:=Int.mul_le_mul_of_nonneg_right (by omega) h2;rw[Int.neg_mul]at this;omega
end
end Go.M
