/-
  Free-choice nets in plain Lean: Commoner's theorem. No program is named.
-/
import Derived.KernelRfl
set_option linter.all false
namespace Go.M.FC
def fire(I O:Nat→Nat→Prop)[∀t p,Decidable (I t p)][∀t p,Decidable (O t p)](x:Nat→Int)(t:Nat):Nat→Int:=fun p=>x p-(if I t p then 1 else 0)+(if O t p then 1 else 0)
section
variable (N T : Nat) (I O : Nat → Nat → Prop) [∀ t p, Decidable (I t p)] [∀ t p, Decidable (O t p)]
def En(x:Nat→Int)(t:Nat):Prop:=∀p,p<N→I t p→1≤x p
inductive Rea (x : Nat → Int) : (Nat → Int) → Prop
 | refl : Rea x x
 | step {y : Nat → Int} (t : Nat) (h : Rea x y) (ht : t < T) (he : En N I y t) : Rea x (fire I O y t)
def Free:Prop:=∀t u p,t<T→u<T→p<N→I t p→I u p→∀q,q<N→(I t q↔I u q)
def Siphon(S:Nat→Prop):Prop:=∀t,t<T→∀p,p<N→O t p→S p→∃q,q<N∧I t q∧S q
def Trap(Q:Nat→Prop):Prop:=∀t,t<T→∀p,p<N→I t p→Q p→∃q,q<N∧O t q∧Q q
def Live(m:Nat→Int):Prop:=∀t,t<T→∀x,Rea N T I O m x→∃y,Rea N T I O x y∧En N I y t
def qtp(x:Nat→Int)(t:Nat):Prop:=∀y,Rea N T I O x y→¬En N I y t
end
variable {N T : Nat} {I O : Nat → Nat → Prop} [∀ t p, Decidable (I t p)] [∀ t p, Decidable (O t p)]
theorem Rea.trans{x y z:Nat→Int}(h1:Rea N T I O x y)(h2:Rea N T I O y z):Rea N T I O x z:=by
 induction h2 with
 |refl=>exact h1
 |step t _ ht he ih=>exact .step t ih ht he
theorem j5z{x:Nat→Int}{t:Nat}(hx:∀p,p<N→0≤x p)(he:En N I x t):∀p,p<N→0≤fire I O x t p:=fun p hp=>by
 have h1:=hx p hp;have h2:=he p hp;unfold fire;by_cases hi:I t p
 ·have:=h2 hi;rw[if_pos hi];split<;>omega
 ·rw[if_neg hi];split<;>omega
theorem Rea.nn{x y:Nat→Int}(h:Rea N T I O x y)(hx:∀p,p<N→0≤x p):∀p,p<N→0≤y p:=by
 induction h with
 |refl=>exact hx
 |step t _ _ he ih=>exact j5z ih he
theorem qtp.mono{x y:Nat→Int}{t:Nat}(h:qtp N T I O x t)(hr:Rea N T I O x y):qtp N T I O y t:=fun z hz=>h z (hr.trans hz)
theorem jx0{m y:Nat→Int}{Q:Nat→Prop}(hQ:Trap N T I O Q)(hm:∀p,p<N→0≤m p)(h:Rea N T I O m y)(h1:∃p,p<N∧Q p∧1≤m p):∃p,p<N∧Q p∧1≤y p:=by
 induction h with
 |refl=>exact h1
 | @step y t hr ht he ih=>
  obtain⟨p,hp,hq,hy⟩:=ih;have hnn:=hr.nn hm;by_cases hi:I t p
  ·obtain⟨q,hq1,hq2,hq3⟩:=hQ t ht p hp hi hq;have h2:=hnn q hq1;have h3:=he q hq1;refine⟨q,hq1,hq3,?_⟩;unfold fire;rw[if_pos hq2];by_cases hi2:I t q
   ·have:=h3 hi2;rw[if_pos hi2];omega
   ·rw[if_neg hi2];omega
  ·refine⟨p,hp,hq,?_⟩;unfold fire;rw[if_neg hi];split<;>omega
theorem keep{x y:Nat→Int}{t p:Nat}(hF:Free N T I)(ht:t<T)(hp:p<N)(hi:I t p)(hd:qtp N T I O x t)(h:Rea N T I O x y){z:Nat→Int}(h2:Rea N T I O y z):y p≤z p:=by
 induction h2 with
 |refl=>exact Int.le_refl _
 | @step z u hr hu he ih=>
  have hn:¬I u p:=fun hi2=>hd z (h.trans hr) fun q hq hiq=>he q hq ((hF t u p ht hu hp hi hi2 q hq).1 hiq)
  unfold fire;rw[if_neg hn];split<;>omega
open Classical in
noncomputable def cnt(N T:Nat)(I O:Nat→Nat→Prop)[∀t p,Decidable (I t p)][∀t p,Decidable (O t p)](x:Nat→Int):Nat→Nat
 |0=>0
 |k+1=>cnt N T I O x k+if qtp N T I O x k then 1 else 0
theorem jwh(x:Nat→Int):∀k,cnt N T I O x k≤k
 |0=>Nat.le_refl _
 |k+1=>by
  have:=jwh x k;unfold cnt;split<;>omega
theorem jtz{x y:Nat→Int}(h:Rea N T I O x y):∀k,cnt N T I O x k≤cnt N T I O y k
 |0=>Nat.le_refl _
 |k+1=>by
  have h1:=jtz h k;unfold cnt;by_cases hd:qtp N T I O x k
  ·rw[if_pos hd,if_pos (hd.mono h)];omega
  ·rw[if_neg hd];omega
theorem jwi{x y:Nat→Int}(h:Rea N T I O x y){t:Nat}(h1:¬qtp N T I O x t)(h2:qtp N T I O y t):∀{k},t<k→cnt N T I O x k<cnt N T I O y k
 |0,hk=>by omega
 |k+1,hk=>by
  unfold cnt;by_cases e:t=k
  ·subst e;have:=jtz h t;rw[if_neg h1,if_pos h2];omega
  ·have h3:=jwi h h1 h2 (k:=k) (by omega);by_cases hd:qtp N T I O x k
   ·rw[if_pos hd,if_pos (hd.mono h)];omega
   ·rw[if_neg hd];omega
theorem zee(x:Nat→Int):∃y,Rea N T I O x y∧∀z,Rea N T I O y z→∀t,t<T→qtp N T I O z t→qtp N T I O y t:=by
 have key:∀k x,T-cnt N T I O x T≤k→∃y,Rea N T I O x y∧∀z,Rea N T I O y z→∀t,t<T→qtp N T I O z t→qtp N T I O y t:=by
  intro k
  induction k with
  |zero=>
   intro x hx;refine⟨x, .refl,fun z hz t ht hd=>Classical.byContradiction fun hn=> ?_⟩;have h1:=jwi hz hn hd ht;have h2:=jwh (N:=N) (T:=T) (I:=I) (O:=O) z T;omega
  |succ k ih=>
   intro x hx;by_cases hs:∀z,Rea N T I O x z→∀t,t<T→qtp N T I O z t→qtp N T I O x t
   ·exact⟨x, .refl,hs⟩
   ·have:∃z,Rea N T I O x z∧∃t,t<T∧qtp N T I O z t∧¬qtp N T I O x t:=Classical.byContradiction fun hc=>hs fun z hz t ht hd=>Classical.byContradiction fun hn=>hc ⟨z,hz,t,ht,hd,hn⟩
    obtain⟨z,hz,t,ht,hd,hn⟩:=this;have h1:=jwi hz hn hd ht;have h2:=jwh (N:=N) (T:=T) (I:=I) (O:=O) z T;obtain⟨y,hy,hys⟩:=ih z (by omega);exact⟨y,hz.trans hy,hys⟩
 exact key _ x (Nat.le_refl _)
theorem live_of{m:Nat→Int}(hF:Free N T I)(hm:∀p,p<N→0≤m p)(hC:∀S,Siphon N T I O S→(∃p,p<N∧S p)→∃Q,Trap N T I O Q∧(∀p,p<N→Q p→S p)∧∃p,p<N∧Q p∧1≤m p):Live N T I O m:=by
 intro t0 ht0 x0 hx0;refine Classical.byContradiction fun hno=> ?_
 have hd0:qtp N T I O x0 t0:=fun y hy he=>hno ⟨y,hy,he⟩
 obtain⟨x,hx,hst⟩:=zee (N:=N) (T:=T) (I:=I) (O:=O) x0;have hd1:=hd0.mono hx;have hmx:=hx0.trans hx;have hxn:=hmx.nn hm;have claim:∀t,t<T→qtp N T I O x t→∃p,p<N∧I t p∧x p≤0∧∀u,u<T→O u p→qtp N T I O x u:=fun t ht hd=>by
  refine Classical.byContradiction fun hc=> ?_
  have key:∀k,k≤N→∃y,Rea N T I O x y∧∀p,p<k→I t p→1≤y p:=by
   intro k
   induction k with
   |zero=>intro _;exact⟨x, .refl,fun p hp=>by omega⟩
   |succ k ih=>
    intro hk;obtain⟨y,hy,hyp⟩:=ih (by omega);by_cases hi:I t k
    ·have fin:∀z,Rea N T I O y z→1≤z k→∃y,Rea N T I O x y∧∀p,p<k+1→I t p→1≤y p:=fun z hz h1=>by
      refine⟨z,hy.trans hz,fun p hp hip=> ?_⟩;by_cases e:p=k
      ·rw[e];exact h1
      ·exact Int.le_trans (hyp p (by omega) hip) (keep hF ht (by omega) hip hd hy hz)
     by_cases h1:1≤x k
     ·exact fin y .refl (Int.le_trans h1 (keep hF ht (by omega) hi hd .refl hy))
     ·have:∃u,u<T∧O u k∧¬qtp N T I O x u:=Classical.byContradiction fun hc2=>hc ⟨k,by omega,hi,by omega,fun u hu ho=>Classical.byContradiction fun hn=>hc2 ⟨u,hu,ho,hn⟩⟩
      obtain⟨u,hu,ho,hn⟩:=this;have hn2:¬qtp N T I O y u:=fun hdu=>hn (hst y hy u hu hdu)
      have:∃z,Rea N T I O y z∧En N I z u:=Classical.byContradiction fun hc2=>hn2 fun z hz he=>hc2 ⟨z,hz,he⟩
      obtain⟨z,hz,he⟩:=this;have hni:¬I u k:=fun hiu=>hd z (hy.trans hz) fun q hq hiq=>he q hq ((hF t u k ht hu (by omega) hi hiu q hq).1 hiq)
      have hzn:=(hy.trans hz).nn hxn k (by omega);refine fin _ (.step u hz hu he) ?_;unfold fire;rw[if_neg hni,if_pos ho];omega
    ·refine⟨y,hy,fun p hp hip=> ?_⟩;by_cases e:p=k
     ·rw[e]at hip;exact absurd hip hi
     ·exact hyp p (by omega) hip
  obtain⟨y,hy,hyp⟩:=key N (Nat.le_refl _);exact hd y hy hyp
 obtain⟨Q,hQ,hQS,hQm⟩:=hC (fun p=>∃t,t<T∧qtp N T I O x t∧I t p∧x p≤0∧∀u,u<T→O u p→qtp N T I O x u) (fun u hu p hp ho ⟨t,_,_,_,_,hall⟩=>by
  obtain⟨q,hq,h1,h2,h3⟩:=claim u hu (hall u hu ho);exact⟨q,hq,h1,u,hu,hall u hu ho,h1,h2,h3⟩) (by
  obtain⟨q,hq,h1,h2,h3⟩:=claim t0 ht0 hd1;exact⟨q,hq,t0,ht0,hd1,h1,h2,h3⟩)
 obtain⟨p,hp,hq,h1⟩:=jx0 hQ hm hmx hQm;obtain⟨t,_,_,_,h2,_⟩:=hQS p hp hq;omega
def Lvl(N T:Nat)(I O:Nat→Nat→Prop)(S:Nat→Prop):Nat→Nat→Prop
 |0,p=>S p
 |k+1,p=>Lvl N T I O S k p∧∀t,t<T→I t p→∃q,q<N∧O t q∧Lvl N T I O S k q
theorem Lvl.mono{S:Nat→Prop}{p:Nat}{j:Nat}:∀{k:Nat},j≤k→Lvl N T I O S k p→Lvl N T I O S j p
 |0,hj,h=>by rw[show j=0 by omega];exact h
 |k+1,hj,h=>by
  by_cases e:j=k+1
  ·rw[e];exact h
  ·exact Lvl.mono (k:=k) (by omega) h.1
theorem j7a{P:Nat→Nat→Prop}(hmono:∀q j k,j≤k→P q j→P q k):∀n:Nat,(∀q,q<n→∃k,P q k)→∃K,∀q,q<n→P q K
 |0,_=>⟨0,fun q hq=>by omega⟩
 |n+1,h=>by
  obtain⟨K,hK⟩:=j7a hmono n fun q hq=>h q (by omega)
  obtain⟨k,hk⟩:=h n (by omega);refine⟨max K k,fun q hq=> ?_⟩;by_cases e:q=n
  ·rw[e];exact hmono n k _ (by omega) hk
  ·exact hmono q K _ (by omega) (hK q (by omega))
theorem j3i(S:Nat→Prop):Trap N T I O (fun p=>∀k,Lvl N T I O S k p):=fun t ht p hp hi hall=>by
 refine Classical.byContradiction fun hc=> ?_
 have h1:∀q,q<N→∃k,O t q→¬Lvl N T I O S k q:=fun q hq=>Classical.byContradiction fun hn=>hc ⟨q,hq,Classical.byContradiction fun ho=>hn ⟨0,fun ho' =>absurd ho' ho⟩,fun k=>Classical.byContradiction fun hk=>hn ⟨k,fun _=>hk⟩⟩
 obtain⟨K,hK⟩:=j7a (P:=fun q k=>O t q→¬Lvl N T I O S k q) (fun q j k hjk h ho hl=>h ho (hl.mono hjk)) N h1;obtain⟨q,hq,ho,hl⟩:=(hall (K+1)).2 t ht hi;exact hK q hq ho hl
theorem zhb{P:Nat→Prop}:∀{n:Nat},P n→∃k,P k∧∀j,j<k→¬P j:=fun{n}=>by
 induction n using Nat.strongRecOn with
 |_ n ih=>
  intro h;by_cases hc:∃j,j<n∧P j
  ·obtain⟨j,hj,hp⟩:=hc;exact ih j hj hp
  ·exact⟨n,h,fun j hj hp=>hc ⟨j,hj,hp⟩⟩
open Classical in
noncomputable def rnk(N T:Nat)(I O:Nat→Nat→Prop)(S:Nat→Prop)(p:Nat):Nat:=if h:∃k,¬Lvl N T I O S k p∧∀j,j<k→Lvl N T I O S j p then h.choose else 0
theorem j4e{S:Nat→Prop}{p:Nat}(h:¬∀k,Lvl N T I O S k p):¬Lvl N T I O S (rnk N T I O S p) p∧∀j,j<rnk N T I O S p→Lvl N T I O S j p:=by
 have h1:∃k,¬Lvl N T I O S k p:=Classical.byContradiction fun hc=>h fun k=>Classical.byContradiction fun hk=>hc ⟨k,hk⟩
 obtain⟨k,hk⟩:=h1;obtain⟨k,hk,hj⟩:=zhb (P:=fun k=>¬Lvl N T I O S k p) hk;have h2:∃k,¬Lvl N T I O S k p∧∀j,j<k→Lvl N T I O S j p:=⟨k,hk,fun j hlt=>Classical.byContradiction fun hn=>hj j hlt hn⟩;unfold rnk;rw[dif_pos h2];exact h2.choose_spec
def sz(f:Nat→Int):Nat→Int
 |0=>0
 |n+1=>sz f n+f n
theorem jvm{f g:Nat→Int}:∀{n:Nat},(∀i,i<n→f i≤g i)→sz f n≤sz g n
 |0,_=>Int.le_refl _
 |n+1,h=>by
  have h1:=jvm (n:=n) fun i hi=>h i (by omega)
  have h2:=h n (by omega);show sz f n+f n≤sz g n+g n;omega
theorem jxz(f g:Nat→Int):∀n,sz (fun i=>f i+g i) n=sz f n+sz g n
 |0=>rfl
 |n+1=>by
  show sz _ n+(f n+g n)=sz f n+f n+(sz g n+g n);rw[jxz f g n];omega
theorem joj(c:Int):∀n:Nat,sz (fun _=>c) n=n*c
 |0=>by simp[sz]
 |n+1=>by
  show sz _ n+c=_;rw[joj c n,show((n+1:Nat):Int)=(n:Int)+1 by omega,Int.add_mul,Int.one_mul]
theorem j4t{c:Int}{k:Nat}:∀{n:Nat},k<n→sz (fun i=>if i=k then c else 0) n=c
 |0,h=>by omega
 |n+1,h=>by
  show sz _ n+(if n=k then c else 0)=c;by_cases e:n=k
  ·subst e;have h0:∀m,m≤n→sz (fun i=>if i=n then c else 0) m=0:=by
    intro m
    induction m with
    |zero=>intro _;rfl
    |succ m ih=>
     intro hm;show sz _ m+(if m=n then c else 0)=0;rw[ih (by omega),if_neg (by omega)];rfl
   rw[h0 n (Nat.le_refl _),if_pos rfl];omega
  ·rw[if_neg e,j4t (by omega)];omega
open Classical in
noncomputable def wgt(N T:Nat)(I O:Nat→Nat→Prop)(S:Nat→Prop)(p:Nat):Int:=if S p∧¬(∀k,Lvl N T I O S k p)then((N+1) ^ rnk N T I O S p:Nat)else 0
theorem j4u(S:Nat→Prop)(p:Nat):0≤wgt N T I O S p:=by unfold wgt;split<;>omega
theorem jwt{S:Nat→Prop}(hS:Siphon N T I O S){x y:Nat→Int}(h:Rea N T I O x y):(∀p,p<N→S p→y p=x p)∨∃z t,Rea N T I O x z∧(∀p,p<N→S p→z p=x p)∧t<T∧En N I z t∧∃p,p<N∧I t p∧S p:=by
 induction h with
 |refl=>exact .inl fun _ _ _=>rfl
 | @step y t hr ht he ih=>
  rcases ih with ih|ih
  ·by_cases hc:∃p,p<N∧I t p∧S p
   ·exact .inr ⟨y,t,hr,ih,ht,he,hc⟩
   ·refine .inl fun p hp hs=> ?_
    unfold fire;rw[if_neg fun hi=>hc ⟨p,hp,hi,hs⟩,if_neg fun ho=>hc (hS t ht p hp ho hs),ih p hp hs];omega
  ·exact .inr ih
theorem not_live{m:Nat→Int}(hF:Free N T I)(hm:∀p,p<N→0≤m p){S:Nat→Prop}(hS:Siphon N T I O S)(hne:∃p,p<N∧S p∧∃t,t<T∧I t p)
  (hQ:∀Q,Trap N T I O Q→(∀p,p<N→Q p→S p)→∀p,p<N→Q p→m p≤0):¬Live N T I O m:=fun hL=>by
 obtain⟨p0,hp0,hs0,t0,ht0,hi0⟩:=hne;have down:∀x,Rea N T I O m x→(∀p,p<N→(∀k,Lvl N T I O S k p)→x p≤0)→∃x',Rea N T I O m x' ∧(∀p,p<N→(∀k,Lvl N T I O S k p)→x' p≤0)∧sz (fun p=>x' p*wgt N T I O S p) N<sz (fun p=>x p*wgt N T I O S p) N:=fun x hx hu=>by
  obtain⟨y,hy,he⟩:=hL t0 ht0 x hx;have:∃z t,Rea N T I O x z∧(∀p,p<N→S p→z p=x p)∧t<T∧En N I z t∧∃p,p<N∧I t p∧S p:=by
   rcases jwt hS hy with h|h
   ·exact⟨y,t0,hy,h,ht0,he,p0,hp0,hi0,hs0⟩
   ·exact h
  obtain⟨z,t,hz,hsame,ht,he,p,hp,hi,hs⟩:=this;have hnq:¬∀k,Lvl N T I O S k p:=fun hall=>by
   have h1:=hu p hp hall;have h2:=he p hp hi;rw[hsame p hp hs]at h2;omega
  obtain⟨r1,r2⟩:=j4e hnq;generalize hr:rnk N T I O S p=r at r1 r2;obtain⟨r,rfl⟩:∃q,r=q+1:=⟨r-1,by
   cases r with
   |zero=>exact absurd hs r1
   |succ r=>rfl⟩
  have:∃a,a<T∧I a p∧∀q,q<N→O a q→¬Lvl N T I O S r q:=Classical.byContradiction fun hc=>r1 ⟨r2 r (by omega),fun a ha hia=>Classical.byContradiction fun hn=>hc ⟨a,ha,hia,fun q hq ho hl=>hn ⟨q,hq,ho,hl⟩⟩⟩
  obtain⟨a,ha,hia,hout⟩:=this;have hea:En N I z a:=fun q hq hiq=>he q hq ((hF t a p ht ha hp hi hia q hq).2 hiq)
  refine⟨fire I O z a,(hx.trans hz).step a ha hea,fun q hq hall=> ?_,?_⟩
  ·have h1:=hu q hq hall;rw[←hsame q hq (hall 0)]at h1;unfold fire;rw[if_neg fun ho=>hout q hq ho (hall r)];split<;>omega
  ·have hsz:sz (fun q=>x q*wgt N T I O S q) N=sz (fun q=>z q*wgt N T I O S q) N:=by
    have e:∀q,q<N→x q*wgt N T I O S q=z q*wgt N T I O S q:=fun q hq=>by
     by_cases hsq:S q
     ·rw[hsame q hq hsq]
     ·unfold wgt;rw[if_neg fun h=>hsq h.1,Int.mul_zero,Int.mul_zero]
    exact Int.le_antisymm (jvm fun q hq=>Int.le_of_eq (e q hq)) (jvm fun q hq=>Int.le_of_eq (e q hq).symm)
   rw[hsz];have hB:∀q,q<N→fire I O z a q*wgt N T I O S q≤(z q*wgt N T I O S q+(if q=p then-(((N+1) ^ (r+1):Nat):Int)else 0))+(((N+1) ^ r:Nat):Int):=fun q hq=>by
    have hw:=j4u (N:=N) (T:=T) (I:=I) (O:=O) S q;have hout2:O a q→wgt N T I O S q≤(((N+1) ^ r:Nat):Int):=fun ho=>by
     unfold wgt;by_cases hd:S q∧¬∀k,Lvl N T I O S k q
     ·rw[if_pos hd];have h1:=j4e hd.2;have h2:rnk N T I O S q≤r:=Nat.not_lt.1 fun hlt=>hout q hq ho (h1.2 r hlt)
      exact Int.ofNat_le.2 (Nat.pow_le_pow_right (by omega) h2)
     ·rw[if_neg hd];omega
    have hwp:q=p→wgt N T I O S q=(((N+1) ^ (r+1):Nat):Int):=fun e=>by
     unfold wgt;rw[e,if_pos ⟨hs,hnq⟩,hr]
    have e1:fire I O z a q*wgt N T I O S q=z q*wgt N T I O S q-(if I a q then wgt N T I O S q else 0)+(if O a q then wgt N T I O S q else 0):=by
     unfold fire;rw[Int.add_mul,Int.sub_mul];congr 1
     ·congr 1;split<;>simp
     ·split<;>simp
    rw[e1];generalize wgt N T I O S q=w at hw hout2 hwp;generalize z q*w=zw;have hpos:0≤(((N+1) ^ r:Nat):Int):=by omega
    by_cases e:q=p
    ·have h1:=hwp e;rw[if_pos e,if_pos (by rw[e];exact hia),←h1];by_cases ho:O a q
     ·have:=hout2 ho;rw[if_pos ho];omega
     ·rw[if_neg ho];omega
    ·rw[if_neg e];by_cases ho:O a q
     ·have:=hout2 ho;rw[if_pos ho];split<;>omega
     ·rw[if_neg ho];split<;>omega
   have h1:=jvm (n:=N) hB;rw[jxz,jxz,j4t hp,joj]at h1;have h2:(((N+1) ^ (r+1):Nat):Int)=(N:Int)*(((N+1) ^ r:Nat):Int)+(((N+1) ^ r:Nat):Int):=by
    rw[Nat.pow_succ,Nat.mul_comm,Nat.add_mul,Nat.one_mul,Int.natCast_add,Int.natCast_mul]
   have h3:(1:Int)≤(((N+1) ^ r:Nat):Int):=Int.ofNat_le.2 (Nat.pow_pos (by omega));omega
 have nn:∀x,Rea N T I O m x→0≤sz (fun p=>x p*wgt N T I O S p) N:=fun x hx=>by
  have h1:=hx.nn hm;have h2:=jvm (f:=fun _=>0) (g:=fun p=>x p*wgt N T I O S p) (n:=N) fun p hp=>Int.mul_nonneg (h1 p hp) (j4u S p)
  rw[joj]at h2;omega
 have no:∀k:Nat,∀x,Rea N T I O m x→(∀p,p<N→(∀k,Lvl N T I O S k p)→x p≤0)→sz (fun p=>x p*wgt N T I O S p) N≤k→False:=by
  intro k
  induction k with
  |zero=>
   intro x hx hu hk;obtain⟨x',h1,h2,h3⟩:=down x hx hu;have:=nn x' h1;omega
  |succ k ih=>
   intro x hx hu hk;obtain⟨x',h1,h2,h3⟩:=down x hx hu;exact ih x' h1 h2 (by omega)
 have h0:=nn m .refl;exact no (sz (fun p=>m p*wgt N T I O S p) N).toNat m .refl (fun p hp hall=>hQ _ (j3i S) (fun p _ h=>h 0) p hp hall) (by omega)
end Go.M.FC
