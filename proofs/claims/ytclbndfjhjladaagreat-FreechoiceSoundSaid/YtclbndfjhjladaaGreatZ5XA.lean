/-
  Free-choice nets in plain Lean: the rank theorem: invariants of places, liveness. No program is named.
-/
import Derived.Test.YtclbndfjhjladaaGreatZ5X9
set_option linter.all false
namespace Go.M.FC
open Go.K Go.M
variable {N T K : Nat} {I O : Nat → Nat → Prop} [∀ t p, Decidable (I t p)] [∀ t p, Decidable (O t p)] {cp ct : Nat → Nat}
open Classical in
theorem jkw(h:Cl N T K I cp ct)(hsc:SC N T K O cp ct){x0:Nat→Int}(hx:∀t,t<T→0<x0 t)(hT:TInv N T I O x0){r:Nat}(hr:Rk N T I O r)(hrK:r+1=K)
  {qj:Nat→Nat} (hq:∀j,j<K→qj j<N∧cp (qj j)=j) {Dd:Nat→Prop} {j1:Nat} (hj1:j1<K) (hD1:Dd j1) (hcl:∀j,j<K→Dd j→∀t,t<T→O t (qj j)→Dd (ct t)):
  ∃Y:Nat→Int,(∀p,0≤Y p)∧(∃j,j<K∧Dd j∧0<Y (qj j))∧(∀p,p<N→Y p≠0→∃j,j<K∧Dd j∧p=qj j)∧SInv N T I O Y:=by
 obtain⟨y,⟨j2,hj2,hy2⟩,hy⟩:=few (K-1) (n:=K) (by omega) fun j e=>if Dd (skip j1 e)then(if Dd j then af (fun t=>if ct t=skip j1 e then x0 t*inc I O t (qj j)else 0) T else 0)else if j=skip j1 e then 1 else 0
 have hsk:∀i,i<K→i≠j1→∃e,e<K-1∧skip j1 e=i:=fun i hi hne=>by
  by_cases hlt:i<j1
  ·exact⟨i,by omega,by unfold skip;rw[if_pos hlt]⟩
  ·exact⟨i-1,by omega,by unfold skip;rw[if_neg (by omega)];omega⟩
 have hout:∀i,i<K→¬Dd i→y i=0:=fun i hi hd=>by
  obtain⟨e,he,hs⟩:=hsk i hi fun e=>hd (e▸hD1)
  have:=hy e he;rw[aj (g:=fun j=>if j=i then y j else 0) fun j hj=>by rw[hs,if_neg hd];split<;>simp,fc hi fun k hk hne=>if_neg hne,if_pos rfl]at this;exact this
 have hD2:Dd j2:=Classical.byContradiction fun hn=>hy2 (hout j2 hj2 hn)
 have heq:∀i,i<K→i≠j1→Dd i→af (fun j=>y j*af (fun t=>if ct t=i then x0 t*inc I O t (qj j)else 0) T) K=0:=fun i hi hne hd=>by
  obtain⟨e,he,hs⟩:=hsk i hi hne;refine(aj fun j hj=> ?_).trans (hy e he);rw[hs,if_pos hd];by_cases hdj:Dd j
  ·rw[if_pos hdj]
  ·rw[hout j hj hdj,Int.zero_mul,Int.zero_mul]
 have place:∀(f:Nat→Int) (g:Nat→Int),af (fun p=>(if qj (cp p)=p then f (cp p)else 0)*g p) N=af (fun j=>f j*g (qj j)) K:=fun f g=>by
  have e1:∀p,p<N→(if qj (cp p)=p then f (cp p)else 0)*g p=af (fun j=>if qj j=p then f j*g (qj j)else 0) K:=fun p hp=>by
   rw[fc (i:=cp p) (h.cpK p hp) fun k hk hne=>if_neg fun e=>hne (by rw[←e,(hq k hk).2])];by_cases e:qj (cp p)=p
   ·rw[if_pos e,if_pos e,e]
   ·rw[if_neg e,if_neg e,Int.zero_mul]
  rw[aj e1,lb];refine aj fun j hj=> ?_
  rw[fc (i:=qj j) (hq j hj).1 fun k hk hne=>if_neg fun e=>hne e.symm,if_pos rfl]
 have hz:∀t,af (fun p=>(if qj (cp p)=p then y (cp p)else 0)*inc I O t p) N=af (fun j=>y j*inc I O t (qj j)) K:=fun t=>place y fun p=>inc I O t p
 have hoff:∀t,t<T→¬Dd (ct t)→∀j,j<K→Dd j→inc I O t (qj j)=0:=fun t ht hd j hj hdj=>by
  unfold inc;rw[if_neg fun ho=>hd (hcl j hj hdj t ht ho),if_neg fun hi=>hd (by rw[(h.io t _ ht (hq j hj).1).1 hi,(hq j hj).2];exact hdj)];rfl
 have hoff' :∀(f:Nat→Int),(∀i,i<K→¬Dd i→f i=0)→∀t,t<T→¬Dd (ct t)→af (fun j=>f j*inc I O t (qj j)) K=0:=fun f hf t ht hd=>bw fun j hj=>by
  by_cases hdj:Dd j
  ·rw[hoff t ht hd j hj hdj,Int.mul_zero]
  ·rw[hf j hj hdj,Int.zero_mul]
 have hsum:∀i,af (fun t=>if ct t=i then x0 t*af (fun j=>y j*inc I O t (qj j)) K else 0) T=af (fun j=>y j*af (fun t=>if ct t=i then x0 t*inc I O t (qj j)else 0) T) K:=fun i=>by
  have e1:∀t,t<T→(if ct t=i then x0 t*af (fun j=>y j*inc I O t (qj j)) K else 0)=af (fun j=>y j*(if ct t=i then x0 t*inc I O t (qj j)else 0)) K:=fun t ht=>by
   by_cases e:ct t=i
   ·rw[if_pos e,←bm];exact aj fun j hj=>by rw[if_pos e,Int.mul_left_comm]
   ·rw[if_neg e];exact(bw fun j hj=>by rw[if_neg e,Int.mul_zero]).symm
  rw[aj e1,lb];exact aj fun j hj=>bm _ _ _
 have hSi:∀i,i<K→i≠j1→af (fun t=>if ct t=i then x0 t*af (fun j=>y j*inc I O t (qj j)) K else 0) T=0:=fun i hi hne=>by
  by_cases hd:Dd i
  ·rw[hsum,heq i hi hne hd]
  ·refine bw fun t ht=> ?_
   by_cases e:ct t=i
   ·rw[if_pos e,hoff' y hout t ht (e▸hd),Int.mul_zero]
   ·rw[if_neg e]
 have hall:af (fun t=>x0 t*af (fun j=>y j*inc I O t (qj j)) K) T=0:=by
  have e1:∀t,t<T→x0 t*af (fun j=>y j*inc I O t (qj j)) K=af (fun j=>y j*(x0 t*inc I O t (qj j))) K:=fun t ht=>by
   rw[←bm];exact aj fun j hj=>Int.mul_left_comm _ _ _
  rw[aj e1,lb];exact bw fun j hj=>by rw[bm,hT _ (hq j hj).1,Int.mul_zero]
 have hA:∀i,i<K→af (fun t=>if ct t=i then x0 t*af (fun p=>(if qj (cp p)=p then y (cp p)else 0)*inc I O t p) N else 0) T=0:=fun i hi=>by
  rw[aj fun t ht=>by rw[hz t]];by_cases e:i=j1
  ·subst e;have h1:=q4q h.ctK (fun _=>1) fun t=>x0 t*af (fun j=>y j*inc I O t (qj j)) K
   rw[fc hi fun k hk hne=>by rw[hSi k hk hne,Int.mul_zero],Int.one_mul]at h1;rw[h1,←hall];exact aj fun t ht=>Int.one_mul _
  ·exact hSi i hi e
 have hS:=j14 h hsc hx hT hr (by omega) (by omega) hA;have hS0:∀t,t<T→af (fun j=>y j*inc I O t (qj j)) K=0:=fun t ht=>by rw[←hz t];exact hS t ht
 have habs:∀t,af (fun p=>(if qj (cp p)=p then((y (cp p)).natAbs:Int)else 0)*inc I O t p) N=af (fun j=>((y j).natAbs:Int)*inc I O t (qj j)) K:=fun t=>place (fun j=>((y j).natAbs:Int)) fun p=>inc I O t p
 have hge:∀t,t<T→0≤af (fun j=>((y j).natAbs:Int)*inc I O t (qj j)) K:=fun t ht=>by
  by_cases hd:Dd (ct t)
  ·have split:∀f:Nat→Int,af (fun j=>f j*inc I O t (qj j)) K=af (fun j=>if O t (qj j)then f j else 0) K-f (ct t):=fun f=>by
    have e1:af (fun j=>if j=ct t then f j else 0) K=f (ct t):=by rw[fc (h.ctK t ht) fun k hk hne=>if_neg hne,if_pos rfl]
    rw[←e1,←sumN_sub];refine aj fun j hj=> ?_
    have hio:I t (qj j)↔j=ct t:=by rw[h.io t _ ht (hq j hj).1,(hq j hj).2];exact eq_comm
    unfold inc;by_cases h2:j=ct t
    ·rw[if_pos (hio.2 h2),if_pos h2];by_cases h1:O t (qj j)
     ·rw[if_pos h1,if_pos h1];simp
     ·rw[if_neg h1,if_neg h1];simp
    ·rw[if_neg fun hi=>h2 (hio.1 hi),if_neg h2];by_cases h1:O t (qj j)
     ·rw[if_pos h1,if_pos h1];simp
     ·rw[if_neg h1,if_neg h1];simp
   have h1:=hS0 t ht;rw[split]at h1;rw[split];have h2:=jgc (fun j=>if O t (qj j)then y j else 0) K;have e2:af (fun j=>((if O t (qj j)then y j else 0).natAbs:Int)) K=af (fun j=>if O t (qj j)then((y j).natAbs:Int)else 0) K:=aj fun j hj=>by split<;>simp
   rw[e2]at h2;have e3:af (fun j=>if O t (qj j)then y j else 0) K=y (ct t):=by omega
   rw[e3]at h2;omega
  ·rw[hoff' _ (fun i hi hn=>by rw[hout i hi hn];rfl) t ht hd];exact Int.le_refl _
 have hzero:∀t,t<T→af (fun j=>((y j).natAbs:Int)*inc I O t (qj j)) K=0:=fun t ht=>by
  have h1:af (fun t=>x0 t*af (fun j=>((y j).natAbs:Int)*inc I O t (qj j)) K) T=0:=by
   have e1:∀t,t<T→x0 t*af (fun j=>((y j).natAbs:Int)*inc I O t (qj j)) K=af (fun j=>((y j).natAbs:Int)*(x0 t*inc I O t (qj j))) K:=fun t ht=>by
    rw[←bm];exact aj fun j hj=>Int.mul_left_comm _ _ _
   rw[aj e1,lb];exact bw fun j hj=>by rw[bm,hT _ (hq j hj).1,Int.mul_zero]
  have h2:=sumN_nz (fun t ht=>Int.mul_nonneg (Int.le_of_lt (hx t ht)) (hge t ht)) h1 t ht;have h3:=hx t ht;rcases Int.mul_eq_zero.1 h2 with h4|h4
  ·omega
  ·exact h4
 refine⟨fun p=>if qj (cp p)=p then((y (cp p)).natAbs:Int)else 0,fun p=> ?_,⟨j2,hj2,hD2,?_⟩,fun p hp hne=> ?_,fun t ht=> ?_⟩
 ·dsimp only;split<;>omega
 ·dsimp only;rw[(hq j2 hj2).2,if_pos rfl];omega
 ·dsimp only at hne;by_cases e:qj (cp p)=p
  ·rw[if_pos e]at hne;refine⟨cp p,h.cpK p hp,Classical.byContradiction fun hn=>hne ?_,e.symm⟩;rw[hout _ (h.cpK p hp) hn];rfl
  ·rw[if_neg e]at hne;exact absurd rfl hne
 ·rw[habs t];exact hzero t ht
theorem PathN.last{n i k:Nat}(h:PathN N T O cp ct (n+1) i k):∃j,PathN N T O cp ct n i j∧Edge N T O cp ct j k:=by
 cases h with
 |step h he=>exact⟨_,h,he⟩
theorem scover(h:Cl N T K I cp ct)(hsc:SC N T K O cp ct){x0:Nat→Int}(hx:∀t,t<T→0<x0 t)(hT:TInv N T I O x0){r:Nat}(hr:Rk N T I O r)(hrK:r+1=K){p0:Nat}(hp0:p0<N):
  ∃Y:Nat→Int,(∀p,0≤Y p)∧0<Y p0∧SInv N T I O Y:=by
 have hj0:=h.cpK p0 hp0;have hd:∀j,∃d,j<K→PathN N T O cp ct d (cp p0) j∧∀i,i<d→¬PathN N T O cp ct i (cp p0) j:=fun j=>by
  by_cases hj:j<K
  ·obtain⟨n,hn⟩:=hsc (cp p0) j hj0 hj;obtain⟨d,h1,h2⟩:=jj6 (P:=fun n=>PathN N T O cp ct n (cp p0) j) hn;exact⟨d,fun _=>⟨h1,h2⟩⟩
  ·exact⟨0,fun hj' =>absurd hj' hj⟩
 obtain⟨dist,hdist⟩:=Classical.axiomOfChoice hd;have hq:∀j,∃p,j<K→(p<N∧cp p=j)∧(j=cp p0→p=p0)∧(j≠cp p0→∃t,t<T∧O t p∧dist (ct t)<dist j):=fun j=>by
  by_cases hj:j<K
  ·by_cases e:j=cp p0
   ·exact⟨p0,fun _=>⟨⟨hp0,e.symm⟩,fun _=>rfl,fun hne=>absurd e hne⟩⟩
   ·obtain⟨h1,_⟩:=hdist j hj;cases hdj:dist j with
    |zero=>
     rw[hdj]at h1;cases h1;exact absurd rfl e
    |succ d=>
     rw[hdj]at h1;obtain⟨i,hi,t,p,ht,hp,rfl,ho,rfl⟩:=h1.last;refine⟨p,fun _=>⟨⟨hp,rfl⟩,fun e' =>absurd e' e,fun _=>⟨t,ht,ho,?_⟩⟩⟩;obtain⟨_,h2⟩:=hdist (ct t) (h.ctK t ht);have:=Classical.byContradiction (p:=dist (ct t)≤d) fun hn=>h2 d (by omega) hi
     omega
  ·exact⟨0,fun hj' =>absurd hj' hj⟩
 obtain⟨qj,hqj⟩:=Classical.axiomOfChoice hq;obtain⟨Y,h0,⟨j,hj,_,hYj⟩,hsup,hS⟩:=jkw h hsc hx hT hr hrK (qj:=qj) (fun j hj=>(hqj j hj).1) (Dd:=fun _=>True) hj0 trivial fun _ _ _ _ _ _=>trivial
 have key:∀n j,j<K→dist j≤n→0<Y (qj j)→0<Y p0:=by
  intro n
  induction n with
  |zero=>
   intro j hj hd hY;by_cases e:j=cp p0
   ·rw[(hqj j hj).2.1 e]at hY;exact hY
   ·obtain⟨t,_,_,hlt⟩:=(hqj j hj).2.2 e;omega
  |succ n ih=>
   intro j hj hd hY;by_cases e:j=cp p0
   ·rw[(hqj j hj).2.1 e]at hY;exact hY
   ·obtain⟨t,ht,ho,hlt⟩:=(hqj j hj).2.2 e;have h1:=hS t ht;rw[balP]at h1;have h2:=sumN_term (n:=N) (f:=fun p=>if O t p then Y p else 0) (fun k hk=>by have:=h0 k;split<;>omega) (qj j) (hqj j hj).1.1;rw[if_pos ho]at h2;obtain⟨p,hp,hi,hYp⟩:∃p,p<N∧I t p∧Y p≠0:=Classical.byContradiction fun hc=>by
     have:af (fun p=>if I t p then Y p else 0) N=0:=bw fun p hp=>by
      by_cases hi:I t p
      ·rw[if_pos hi];exact Classical.byContradiction fun hn=>hc ⟨p,hp,hi,hn⟩
      ·rw[if_neg hi]
     omega
    obtain⟨i,hi',_,rfl⟩:=hsup p hp hYp;have e2:=(h.io t _ ht hp).1 hi;rw[(hqj i hi').1.2]at e2;refine ih i hi' (by rw[←e2];omega) ?_;have:=h0 (qj i);omega
 exact⟨Y,h0,key _ j hj (Nat.le_refl _) hYj,hS⟩
theorem weigh{Y:Nat→Int}(hS:SInv N T I O Y){m x:Nat→Int}(h:Rea N T I O m x):af (fun p=>Y p*x p) N=af (fun p=>Y p*m p) N:=by
 induction h with
 |refl=>rfl
 | @step y t hr ht he ih=>
  rw[←ih];have:af (fun p=>Y p*fire I O y t p) N=af (fun p=>Y p*y p) N+af (fun p=>Y p*inc I O t p) N:=by
   rw[←sn];refine aj fun p hp=> ?_
   unfold fire inc;rw[←Int.mul_add];congr 1;omega
  rw[this,hS t ht];omega
theorem jhf(hF:jgo N T I){x:Nat→Int}(hxn:∀p,p<N→0≤x p)(hst:∀z,Rea N T I O x z→∀t,t<T→qar N T I O z t→qar N T I O x t){t:Nat}(ht:t<T)(hd:qar N T I O x t):
  ∃p,p<N∧I t p∧x p≤0∧∀u,u<T→O u p→qar N T I O x u:=by
 refine Classical.byContradiction fun hc=> ?_
 have key:∀k,k≤N→∃y,Rea N T I O x y∧∀p,p<k→I t p→1≤y p:=by
  intro k
  induction k with
  |zero=>intro _;exact⟨x, .refl,fun p hp=>by omega⟩
  |succ k ih=>
   intro hk;obtain⟨y,hy,hyp⟩:=ih (by omega);by_cases hi:I t k
   ·have fin:∀z,Rea N T I O y z→1≤z k→∃y,Rea N T I O x y∧∀p,p<k+1→I t p→1≤y p:=fun z hz h1=>by
     refine⟨z,hy.trans hz,fun p hp hip=> ?_⟩;by_cases e:p=k
     ·rw[e];exact h1
     ·exact Int.le_trans (hyp p (by omega) hip) (keep hF ht (by omega) hip hd hy hz)
    by_cases h1:1≤x k
    ·exact fin y .refl (Int.le_trans h1 (keep hF ht (by omega) hi hd .refl hy))
    ·have:∃u,u<T∧O u k∧¬qar N T I O x u:=Classical.byContradiction fun hc2=>hc ⟨k,by omega,hi,by omega,fun u hu ho=>Classical.byContradiction fun hn=>hc2 ⟨u,hu,ho,hn⟩⟩
     obtain⟨u,hu,ho,hn⟩:=this;have hn2:¬qar N T I O y u:=fun hdu=>hn (hst y hy u hu hdu)
     have:∃z,Rea N T I O y z∧En N I z u:=Classical.byContradiction fun hc2=>hn2 fun z hz he=>hc2 ⟨z,hz,he⟩
     obtain⟨z,hz,he⟩:=this;have hni:¬I u k:=fun hiu=>hd z (hy.trans hz) fun q hq hiq=>he q hq ((hF t u k ht hu (by omega) hi hiu q hq).1 hiq)
     have hzn:=(hy.trans hz).nn hxn k (by omega);refine fin _ (.step u hz hu he) ?_;unfold fire;rw[if_neg hni,if_pos ho];omega
   ·refine⟨y,hy,fun p hp hip=> ?_⟩;by_cases e:p=k
    ·rw[e]at hip;exact absurd hip hi
    ·exact hyp p (by omega) hip
 obtain⟨y,hy,hyp⟩:=key N (Nat.le_refl _);exact hd y hy hyp
theorem Cl.en(h:Cl N T K I cp ct){t u:Nat}(ht:t<T)(hu:u<T)(e:ct t=ct u){x:Nat→Int}(he:En N I x t):En N I x u:=fun p hp hi=>he p hp ((h.io t p ht hp).2 (e.trans ((h.io u p hu hp).1 hi)))
open Classical in
theorem live_rank(h:Cl N T K I cp ct)(hsc:SC N T K O cp ct){x0:Nat→Int}(hx:∀t,t<T→0<x0 t)(hT:TInv N T I O x0){r:Nat}(hr:Rk N T I O r)(hrK:r+1=K)
  {m:Nat→Int} (hm:∀p,p<N→0≤m p) (hY:∀Y:Nat→Int,(∀p,0≤Y p)→SInv N T I O Y→(∃p,p<N∧0<Y p)→0<af (fun p=>Y p*m p) N):Live N T I O m:=by
 intro t0 ht0 x1 hx1;refine Classical.byContradiction fun hno=> ?_
 have hd0:qar N T I O x1 t0:=fun y hy he=>hno ⟨y,hy,he⟩
 obtain⟨x,hxx,hst⟩:=j2c (N:=N) (T:=T) (I:=I) (O:=O) x1;have hd1:=hd0.mono hxx;have hmx:=hx1.trans hxx;have hxn:=hmx.nn hm;have hq:∀j,∃p,j<K→(p<N∧cp p=j)∧((∃t,t<T∧ct t=j∧qar N T I O x t)→x p≤0∧∀u,u<T→O u p→qar N T I O x u):=fun j=>by
  by_cases hj:j<K
  ·by_cases hd:∃t,t<T∧ct t=j∧qar N T I O x t
   ·obtain⟨t,ht,rfl,hdt⟩:=hd;obtain⟨p,hp,hi,h1,h2⟩:=jhf h.free hxn hst ht hdt;exact⟨p,fun _=>⟨⟨hp,((h.io t p ht hp).1 hi).symm⟩,fun _=>⟨h1,h2⟩⟩⟩
   ·obtain⟨p,hp,e⟩:=h.pl j hj;exact⟨p,fun _=>⟨⟨hp,e⟩,fun hd' =>absurd hd' hd⟩⟩
  ·exact⟨0,fun hj' =>absurd hj' hj⟩
 obtain⟨qj,hqj⟩:=Classical.axiomOfChoice hq;obtain⟨Y,h0,⟨j,hj,_,hYj⟩,hsup,hS⟩:=jkw h hsc hx hT hr hrK (qj:=qj) (fun j hj=>(hqj j hj).1) (Dd:=fun j=>∃t,t<T∧ct t=j∧qar N T I O x t) (h.ctK t0 ht0) ⟨t0,ht0,rfl,hd1⟩
  fun j hj hd u hu ho=>⟨u,hu,rfl,((hqj j hj).2 hd).2 u hu ho⟩
 have h1:=hY Y h0 hS ⟨qj j,(hqj j hj).1.1,hYj⟩;rw[←weigh hS hmx,bw fun p hp=> ?_]at h1
 ·omega
 ·by_cases e:Y p=0
  ·rw[e,Int.zero_mul]
  ·obtain⟨i,hi,hd,rfl⟩:=hsup p hp e;have h2:=((hqj i hi).2 hd).1;have h3:=hxn _ hp;rw[show x (qj i)=0 by omega,Int.mul_zero]
theorem rank_ge(h:Cl N T K I cp ct)(hsc:SC N T K O cp ct){x0:Nat→Int}(hx:∀t,t<T→0<x0 t)(hT:TInv N T I O x0){r:Nat}(hr:Rk N T I O r):K≤r+1:=by
 refine Classical.byContradiction fun hno=> ?_
 obtain⟨q,ρ,D,B,hD,_,_,hrow,_⟩:=hr;obtain⟨w,⟨i1,hi1,hw1⟩,hw⟩:=few (r+1) (n:=K) (by omega) fun i e=>if e=r then(if i=0 then 1 else 0)else af (fun t=>if ct t=i then x0 t*B e t else 0) T
 have w0:w 0=0:=by
  have:=hw r (by omega);rw[aj (g:=fun i=>if i=0 then w i else 0) fun i hi=>by rw[if_pos rfl];split<;>simp]at this;rw[fc (i:=0) (by omega) fun k hk hne=>if_neg hne,if_pos rfl]at this;exact this
 have hB:∀s,s<r→af (fun t=>w (ct t)*(x0 t*B s t)) T=0:=fun s hs=>by
  refine(q4q h.ctK w _).symm.trans ((aj fun i hi=> ?_).trans (hw s (by omega)));rw[if_neg (by omega)]
 have hwT:TInv N T I O fun t=>x0 t*w (ct t):=fun p hp=>by
  have e:D*af (fun t=>x0 t*w (ct t)*inc I O t p) T=af (fun s=>inc I O (q s) p*af (fun t=>w (ct t)*(x0 t*B s t)) T) r:=by
   rw[←bm];have e1:∀t,t<T→D*(x0 t*w (ct t)*inc I O t p)=af (fun s=>inc I O (q s) p*(w (ct t)*(x0 t*B s t))) r:=fun t ht=>by
    rw[show D*(x0 t*w (ct t)*inc I O t p)=w (ct t)*x0 t*(D*inc I O t p) by ac_rfl,hrow p t hp ht,←bm];exact aj fun s hs=>by ac_rfl
   rw[aj e1,lb];exact aj fun s hs=>bm _ _ _
  rw[bw (n:=r) fun s hs=>by rw[hB s hs,Int.mul_zero]]at e;rcases Int.mul_eq_zero.1 e with h1|h1
  ·exact absurd h1 hD
  ·exact h1
 exact hw1 ((jq2 h hsc hx hT hwT i1 0 hi1 (by omega)).trans w0)
end Go.M.FC
