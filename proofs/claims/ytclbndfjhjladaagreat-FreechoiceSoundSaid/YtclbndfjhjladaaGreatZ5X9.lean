/-
  Free-choice nets in plain Lean: the rank theorem, linear algebra. No program is named.
-/
import Derived.Test.YtclbndfjhjladaaGreatZ5X8
import Derived.Test.YtclbndfjhjladaaGreatZ5X2
set_option linter.all false
namespace Go.M.FC
open Go.K Go.M
theorem jam(f:Nat→Int):∀{n i:Nat},i≤n→af f (n+1)=f i+af (fun k=>f (skip i k)) n
 |0,i,h=>by
  obtain rfl:i=0:=by omega
  simp only[af];omega
 |n+1,i,h=>by
  by_cases e:i=n+1
  ·subst e;have:af (fun k=>f (skip (n+1) k)) (n+1)=af f (n+1):=aj fun k hk=>by unfold skip;rw[if_pos hk]
   rw[this];show af f (n+1)+f (n+1)=_;omega
  ·have ih:=jam f (n:=n) (i:=i) (by omega);show af f (n+1)+f (n+1)=f i+(af (fun k=>f (skip i k)) n+f (skip i n));rw[ih,show skip i n=n+1 by unfold skip;rw[if_neg (by omega)]];omega
theorem sumN_term{f:Nat→Int}:∀{n:Nat},(∀k,k<n→0≤f k)→∀k,k<n→f k≤af f n
 |0,_,k,hk=>by omega
 |n+1,h,k,hk=>by
  have h1:=qgw (n:=n) fun j hj=>h j (by omega)
  have h2:=h n (by omega);show f k≤af f n+f n;by_cases e:k=n
  ·subst e;omega
  ·have:=sumN_term (n:=n) (fun j hj=>h j (by omega)) k (by omega);omega
theorem sumN_nz{f:Nat→Int}{n:Nat}(h:∀k,k<n→0≤f k)(hs:af f n=0):∀k,k<n→f k=0:=fun k hk=>by
 have:=sumN_term h k hk;have:=h k hk;omega
theorem sumN_sub(f g:Nat→Int):∀n,af (fun k=>f k-g k) n=af f n-af g n
 |0=>rfl
 |n+1=>by simp only[af,sumN_sub f g n];omega
theorem jgc(f:Nat→Int):∀n,((af f n).natAbs:Int)≤af (fun k=>((f k).natAbs:Int)) n
 |0=>by simp[af]
 |n+1=>by
  have:=jgc f n;simp only[af];omega
theorem few:∀(m:Nat) {n:Nat},m<n→∀A:Nat→Nat→Int,∃x:Nat→Int,(∃i,i<n∧x i≠0)∧∀j,j<m→af (fun i=>x i*A i j) n=0
 |0,n,h,A=>⟨fun _=>1,⟨0,h,by simp⟩,fun j hj=>by omega⟩
 |m+1,n,h,A=>by
  by_cases hz:∀i,i<n→A i m=0
  ·obtain⟨x,hx,hj⟩:=few m (n:=n) (by omega) A;refine⟨x,hx,fun j hjm=> ?_⟩;by_cases e:j=m
   ·subst e;exact bw fun i hi=>by rw[hz i hi,Int.mul_zero]
   ·exact hj j (by omega)
  ·obtain⟨i0,hi0,ha⟩:∃i,i<n∧A i m≠0:=Classical.byContradiction fun hc=>hz fun i hi=>Classical.byContradiction fun hn=>hc ⟨i,hi,hn⟩
   obtain⟨n',rfl⟩:∃n',n=n' +1:=⟨n-1,by omega⟩;obtain⟨x,⟨i1,hi1,hx1⟩,hj⟩:=few m (n:=n') (by omega) fun i j=>A i0 m*A (skip i0 i) j-A (skip i0 i) m*A i0 j
   have hsk:∀i,(if skip i0 i<i0 then skip i0 i else skip i0 i-1)=i:=fun i=>by
    unfold skip;by_cases e:i<i0
    ·rw[if_pos e,if_pos e]
    ·rw[if_neg e,if_neg (by omega)];omega
   refine⟨fun k=>if k=i0 then-af (fun i=>x i*A (skip i0 i) m) n' else A i0 m*x (if k<i0 then k else k-1),⟨skip i0 i1,qw9 hi1,?_⟩,fun j hjm=> ?_⟩
   ·dsimp only;rw[if_neg (jdd _ _),hsk];exact Int.mul_ne_zero ha hx1
   ·rw[jam _ (i:=i0) (by omega)];dsimp only;rw[if_pos rfl];have e1:af (fun i=>(if skip i0 i=i0 then-af (fun i=>x i*A (skip i0 i) m) n' else A i0 m*x (if skip i0 i<i0 then skip i0 i else skip i0 i-1))*A (skip i0 i) j) n' =A i0 m*af (fun i=>x i*A (skip i0 i) j) n' :=by
     rw[←bm];exact aj fun i hi=>by rw[if_neg (jdd _ _),hsk,Int.mul_assoc]
    rw[e1];by_cases e:j=m
    ·subst e;rw[Int.neg_mul,Int.mul_comm];omega
    ·have h2:=hj j (by omega);have e2:af (fun i=>x i*(A i0 m*A (skip i0 i) j-A (skip i0 i) m*A i0 j)) n' =A i0 m*af (fun i=>x i*A (skip i0 i) j) n' -af (fun i=>x i*A (skip i0 i) m) n' *A i0 j:=by
      rw[←bm,←qcq,←sumN_sub];exact aj fun i hi=>by
       rw[Int.mul_sub,Int.mul_left_comm,Int.mul_assoc]
     rw[e2]at h2;rw[Int.neg_mul];omega
section
variable (N T K : Nat) (I O : Nat → Nat → Prop) [∀ t p, Decidable (I t p)] [∀ t p, Decidable (O t p)] (cp ct : Nat → Nat)
structure Cl : Prop where
 cpK : ∀ p, p < N → cp p < K
 ctK : ∀ t, t < T → ct t < K
 pl : ∀ j, j < K → ∃ p, p < N ∧ cp p = j
 tr : ∀ j, j < K → ∃ t, t < T ∧ ct t = j
 io : ∀ t p, t < T → p < N → (I t p ↔ ct t = cp p)
def Edge(i j:Nat):Prop:=∃t p,t<T∧p<N∧ct t=i∧O t p∧cp p=j
inductive PathN : Nat → Nat → Nat → Prop
 | refl (i : Nat) : PathN 0 i i
 | step {n i j k : Nat} : PathN n i j → Edge N T O cp ct j k → PathN (n + 1) i k
def SC:Prop:=∀i j,i<K→j<K→∃n,PathN N T O cp ct n i j
def inc(t p:Nat):Int:=(if O t p then 1 else 0)-(if I t p then 1 else 0)
def TInv(x:Nat→Int):Prop:=∀p,p<N→af (fun t=>x t*inc I O t p) T=0
def SInv(y:Nat→Int):Prop:=∀t,t<T→af (fun p=>y p*inc I O t p) N=0
def Rk(r:Nat):Prop:=∃(q ρ:Nat→Nat) (D:Int) (B:Nat→Nat→Int),D≠0∧Inj q r T∧(∀a,a<r→ρ a<N)∧(∀p t,p<N→t<T→D*inc I O t p=af (fun s=>inc I O (q s) p*B s t) r)∧
 ∀x:Nat→Int,(∀a,a<r→af (fun b=>x b*inc I O (q b) (ρ a)) r=0)→∀b,b<r→x b=0
end
variable {N T K : Nat} {I O : Nat → Nat → Prop} [∀ t p, Decidable (I t p)] [∀ t p, Decidable (O t p)] {cp ct : Nat → Nat}
theorem Cl.free(h:Cl N T K I cp ct):jgo N T I:=fun t u p ht hu hp h1 h2 q hq=>by
 have e1:=(h.io t p ht hp).1 h1;have e2:=(h.io u p hu hp).1 h2;rw[h.io t q ht hq,h.io u q hu hq,e1,e2]
theorem bal{x:Nat→Int}{p:Nat}:af (fun t=>x t*inc I O t p) T=af (fun t=>if O t p then x t else 0) T-af (fun t=>if I t p then x t else 0) T:=by
 rw[←sumN_sub];refine aj fun t ht=> ?_
 unfold inc;by_cases h1:O t p<;>by_cases h2:I t p<;>simp[h1,h2]
theorem balP{y:Nat→Int}{t:Nat}:af (fun p=>y p*inc I O t p) N=af (fun p=>if O t p then y p else 0) N-af (fun p=>if I t p then y p else 0) N:=by
 rw[←sumN_sub];refine aj fun p hp=> ?_
 unfold inc;by_cases h1:O t p<;>by_cases h2:I t p<;>simp[h1,h2]
theorem q4q(hct:∀t,t<T→ct t<K)(w f:Nat→Int):af (fun i=>w i*af (fun t=>if ct t=i then f t else 0) T) K=af (fun t=>w (ct t)*f t) T:=by
 have:∀i,i<K→w i*af (fun t=>if ct t=i then f t else 0) T=af (fun t=>if ct t=i then w i*f t else 0) T:=fun i hi=>by
  rw[←bm];exact aj fun t ht=>by split<;>simp
 rw[aj this,lb];refine aj fun t ht=> ?_
 rw[fc (hct t ht) fun k hk hne=>if_neg fun e=>hne e.symm,if_pos rfl]
theorem q9r(w:Nat→Int):∀n,0<n→∃j,j<n∧∀i,i<n→w j≤w i
 |1,_=>⟨0,by omega,fun i hi=>by rw[show i=0 by omega];exact Int.le_refl _⟩
 |n+2,_=>by
  obtain⟨j,hj,hm⟩:=q9r w (n+1) (by omega);by_cases h:w j≤w (n+1)
  ·refine⟨j,by omega,fun i hi=> ?_⟩;by_cases e:i=n+1
   ·rw[e];exact h
   ·exact hm i (by omega)
  ·refine⟨n+1,by omega,fun i hi=> ?_⟩;by_cases e:i=n+1
   ·rw[e];exact Int.le_refl _
   ·have:=hm i (by omega);omega
section
variable (h : Cl N T K I cp ct) (hsc : SC N T K O cp ct) {x0 : Nat → Int} (hx : ∀ t, t < T → 0 < x0 t) (hT : TInv N T I O x0)
include h hsc hx hT
theorem jq2{w:Nat→Int}(hw:TInv N T I O fun t=>x0 t*w (ct t)):∀i j,i<K→j<K→w i=w j:=by
 by_cases hK:0<K
 rotate_left
 ·intro i j hi;omega
 obtain⟨j0,hj0,hmin⟩:=q9r w K hK;have edge:∀i j,Edge N T O cp ct i j→w j=w j0→w i=w j0:=by
  rintro i j ⟨t,p,ht,hp,rfl,ho,rfl⟩ hwj;have h1:=hw p hp;have h2:=hT p hp;rw[bal]at h1 h2;have e1:af (fun t=>if I t p then x0 t*w (ct t)else 0) T=w j0*af (fun t=>if I t p then x0 t else 0) T:=by
   rw[←bm];refine aj fun u hu=> ?_
   by_cases hi:I u p
   ·rw[if_pos hi,if_pos hi,(h.io u p hu hp).1 hi,hwj,Int.mul_comm]
   ·rw[if_neg hi,if_neg hi,Int.mul_zero]
  have e2:af (fun u=>if O u p then x0 u*(w (ct u)-w j0)else 0) T=0:=by
   have:af (fun u=>if O u p then x0 u*(w (ct u)-w j0)else 0) T=af (fun t=>if O t p then x0 t*w (ct t)else 0) T-w j0*af (fun t=>if O t p then x0 t else 0) T:=by
    rw[←bm,←sumN_sub];refine aj fun u hu=> ?_
    by_cases hi:O u p
    ·rw[if_pos hi,if_pos hi,if_pos hi,Int.mul_sub,Int.mul_comm (w j0)]
    ·rw[if_neg hi,if_neg hi,if_neg hi];simp
   rw[this];have e3:af (fun t=>if O t p then x0 t else 0) T=af (fun t=>if I t p then x0 t else 0) T:=by omega
   rw[e3];omega
  have h3:=sumN_nz (fun u hu=>by
   by_cases hi:O u p
   ·rw[if_pos hi];have a1:=hx u hu;have a2:=hmin (ct u) (h.ctK u hu);exact Int.mul_nonneg (by omega) (by omega)
   ·rw[if_neg hi];exact Int.le_refl _) e2 t ht
  rw[if_pos ho]at h3;have a1:=hx t ht;rcases Int.mul_eq_zero.1 h3 with h4|h4<;>omega
 have key:∀{n i j:Nat},PathN N T O cp ct n i j→w j=w j0→w i=w j0:=by
  intro n i j hp
  induction hp with
  |refl=>exact id
  |step _ he ih=>exact fun hk=>ih (edge _ _ he hk)
 intro i j hi hj;obtain⟨_,p1⟩:=hsc i j0 hi hj0;obtain⟨_,p2⟩:=hsc j j0 hj hj0;rw[key p1 rfl,key p2 rfl]
theorem j14{r:Nat}(hr:Rk N T I O r)(hrK:r<K)(hK:K≤r+1){y:Nat→Int}(hA:∀i,i<K→af (fun t=>if ct t=i then x0 t*af (fun p=>y p*inc I O t p) N else 0) T=0):SInv N T I O y:=by
 obtain⟨q,ρ,D,B,hD,_,_,hrow,_⟩:=hr;have hz:∀t,t<T→D*af (fun p=>y p*inc I O t p) N=af (fun s=>af (fun p=>y p*inc I O (q s) p) N*B s t) r:=fun t ht=>by
  rw[←bm];have:∀s,s<r→af (fun p=>y p*inc I O (q s) p) N*B s t=af (fun p=>y p*(inc I O (q s) p*B s t)) N:=fun s hs=>by
   rw[←qcq];exact aj fun p hp=>Int.mul_assoc _ _ _
  rw[aj this,←lb];refine aj fun p hp=> ?_
  rw[bm,←hrow p t hp ht,Int.mul_left_comm]
 refine Classical.byContradiction fun hno=> ?_
 obtain⟨t1,ht1,hne⟩:∃t,t<T∧af (fun p=>y p*inc I O t p) N≠0:=Classical.byContradiction fun hc=>hno fun t ht=>Classical.byContradiction fun hn=>hc ⟨t,ht,hn⟩
 obtain⟨s0,hs0,hz0⟩:∃s,s<r∧af (fun p=>y p*inc I O (q s) p) N≠0:=Classical.byContradiction fun hc=>by
  have h1:=hz t1 ht1;rw[bw (n:=r) fun s hs=>by rw[Classical.byContradiction fun hn=>hc ⟨s,hs,hn⟩,Int.zero_mul]]at h1;rcases Int.mul_eq_zero.1 h1 with h2|h2
  ·exact hD h2
  ·exact hne h2
 obtain⟨w,⟨i1,hi1,hw1⟩,hw⟩:=few r (n:=K) hrK fun i e=>if e=s0 then(if i=0 then 1 else 0)else af (fun t=>if ct t=i then x0 t*B e t else 0) T
 have hpair:∀f:Nat→Int,af (fun i=>w i*af (fun t=>if ct t=i then f t else 0) T) K=af (fun t=>w (ct t)*f t) T:=fun f=>q4q h.ctK w f
 have w0:w 0=0:=by
  have:=hw s0 hs0;rw[aj (g:=fun i=>if i=0 then w i else 0) fun i hi=>by rw[if_pos rfl];split<;>simp]at this;rw[fc (i:=0) (by omega) fun k hk hne=>if_neg hne,if_pos rfl]at this;exact this
 have hB:∀s,s<r→s≠s0→af (fun t=>w (ct t)*(x0 t*B s t)) T=0:=fun s hs hne=>by
  refine(hpair _).symm.trans ((aj fun i hi=> ?_).trans (hw s hs));rw[if_neg hne]
 have hzz:af (fun t=>w (ct t)*(x0 t*af (fun p=>y p*inc I O t p) N)) T=0:=by
  rw[←hpair];exact bw fun i hi=>by rw[hA i hi,Int.mul_zero]
 have hB0:af (fun t=>w (ct t)*(x0 t*B s0 t)) T=0:=by
  have e:D*af (fun t=>w (ct t)*(x0 t*af (fun p=>y p*inc I O t p) N)) T=af (fun s=>af (fun p=>y p*inc I O (q s) p) N*af (fun t=>w (ct t)*(x0 t*B s t)) T) r:=by
   rw[←bm];have e1:∀t,t<T→D*(w (ct t)*(x0 t*af (fun p=>y p*inc I O t p) N))=af (fun s=>af (fun p=>y p*inc I O (q s) p) N*(w (ct t)*(x0 t*B s t))) r:=fun t ht=>by
    have:=hz t ht;rw[show D*(w (ct t)*(x0 t*af (fun p=>y p*inc I O t p) N))=w (ct t)*x0 t*(D*af (fun p=>y p*inc I O t p) N) by ac_rfl,this,←bm];exact aj fun s hs=>by ac_rfl
   rw[aj e1,lb];exact aj fun s hs=>bm _ _ _
  rw[hzz,Int.mul_zero,fc hs0 fun s hs hne=>by rw[hB s hs hne,Int.mul_zero]]at e;rcases Int.mul_eq_zero.1 e.symm with h1|h1
  ·exact absurd h1 hz0
  ·exact h1
 have hBall:∀s,s<r→af (fun t=>w (ct t)*(x0 t*B s t)) T=0:=fun s hs=>by
  by_cases e:s=s0
  ·rw[e];exact hB0
  ·exact hB s hs e
 have hwT:TInv N T I O fun t=>x0 t*w (ct t):=fun p hp=>by
  have e:D*af (fun t=>x0 t*w (ct t)*inc I O t p) T=af (fun s=>inc I O (q s) p*af (fun t=>w (ct t)*(x0 t*B s t)) T) r:=by
   rw[←bm];have e1:∀t,t<T→D*(x0 t*w (ct t)*inc I O t p)=af (fun s=>inc I O (q s) p*(w (ct t)*(x0 t*B s t))) r:=fun t ht=>by
    rw[show D*(x0 t*w (ct t)*inc I O t p)=w (ct t)*x0 t*(D*inc I O t p) by ac_rfl,hrow p t hp ht,←bm];exact aj fun s hs=>by ac_rfl
   rw[aj e1,lb];exact aj fun s hs=>bm _ _ _
  rw[bw (n:=r) fun s hs=>by rw[hBall s hs,Int.mul_zero]]at e;rcases Int.mul_eq_zero.1 e with h1|h1
  ·exact absurd h1 hD
  ·exact h1
 have:=jq2 h hsc hx hT hwT i1 0 hi1 (by omega);exact hw1 (this.trans w0)
end
end Go.M.FC
