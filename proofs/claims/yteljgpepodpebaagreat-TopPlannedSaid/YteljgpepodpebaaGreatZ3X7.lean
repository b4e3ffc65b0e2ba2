/-
  Bland's rule ends (plain, over rationals). No program is named.
-/
import Derived.KernelRfl
set_option linter.all false
namespace Go.K
def d4:Nat→(Nat→Rat)→Rat
 |0,_=>0
 |n+1,f=>d4 n f+f n
theorem cp{f g:Nat→Rat}:∀{n:Nat},(∀j,j<n→f j=g j)→d4 n f=d4 n g
 |0,_=>rfl
 |n+1,h=>by
  show d4 n f+f n=d4 n g+g n;rw[cp fun j hj=>h j (by omega),h n (by omega)]
theorem ql2(f g:Nat→Rat):∀n:Nat,d4 n (fun j=>f j+g j)=d4 n f+d4 n g
 |0=>by simp[d4,Rat.add_zero]
 |n+1=>by
  show d4 n (fun j=>f j+g j)+(f n+g n)=(d4 n f+f n)+(d4 n g+g n);rw[ql2 f g n]
  grind
theorem qho(a:Rat)(f:Nat→Rat):∀n:Nat,d4 n (fun j=>a*f j)=a*d4 n f
 |0=>by simp[d4,Rat.mul_zero]
 |n+1=>by
  show d4 n (fun j=>a*f j)+a*f n=a*(d4 n f+f n);rw[qho a f n]
  grind
theorem qdc{f:Nat→Rat}:∀{n:Nat},(∀j,j<n→f j=0)→d4 n f=0
 |0,_=>rfl
 |n+1,h=>by
  show d4 n f+f n=0;rw[qdc fun j hj=>h j (by omega),h n (by omega)]
  grind
theorem qhp{f:Nat→Rat}{k:Nat}:∀{n:Nat},k<n→(∀j,j<n→j≠k→f j=0)→d4 n f=f k
 |0,hk,_=>by omega
 |n+1,hk,h=>by
  show d4 n f+f n=f k;by_cases e:k=n
  ·subst e;rw[qdc fun j hj=>h j (by omega) (by omega)]
   grind
  ·rw[qhp (by omega) fun j hj=>h j (by omega),h n (by omega) (by omega)]
   grind
theorem qw3(f:Nat→Nat→Rat):∀n m:Nat,d4 n (fun j=>d4 m (fun i=>f i j))=d4 m (fun i=>d4 n (fun j=>f i j))
 |0,m=>by
  exact(qdc fun i _=>rfl).symm
 |n+1,m=>by
  show d4 n (fun j=>d4 m (fun i=>f i j))+d4 m (fun i=>f i n)=d4 m (fun i=>d4 n (fun j=>f i j)+f i n);rw[qw3 f n m,ql2]
theorem jkb{f:Nat→Rat}:∀{n:Nat},0<d4 n f→∃j,j<n∧0<f j
 |0,h=>by
  have:(0:Rat)<0:=h
  grind
 |n+1,h=>by
  have h:0<d4 n f+f n:=h;by_cases h1:0<f n
  ·exact⟨n,by omega,h1⟩
  ·obtain⟨j,hj,hf⟩:=jkb (n:=n) (f:=f) (by grind);exact⟨j,by omega,hf⟩
structure Tb where
 A : Nat → Nat → Rat
 c : Nat → Rat
 B : Nat → Nat
def Tb.piv(T:Tb)(r k:Nat):Tb where
 A i j:=if i=r then T.A r j/T.A r k else T.A i j-T.A i k*(T.A r j/T.A r k)
 c j:=T.c j-T.c k*(T.A r j/T.A r k)
 B i:=if i=r then k else T.B i
section
variable {m n : Nat}
def Tb.hom(m n:Nat)(T:Tb)(d:Nat→Rat):Prop:=∀i,i<m→d4 n (fun j=>T.A i j*d j)=0
def Tb.cd(n:Nat)(T:Tb)(d:Nat→Rat):Rat:=d4 n (fun j=>T.c j*d j)
structure Eqv (m n : Nat) (T T' : Tb) : Prop where
 h : ∀ d, T.hom m n d ↔ T'.hom m n d
 c : ∀ d, T.hom m n d → T.cd n d = T'.cd n d
theorem Eqv.refl(T:Tb):Eqv m n T T:=⟨fun _=>Iff.rfl,fun _ _=>rfl⟩
theorem Eqv.symm{T T' :Tb}(h:Eqv m n T T'):Eqv m n T' T:=⟨fun d=>(h.h d).symm,fun d hd=>(h.c d ((h.h d).2 hd)).symm⟩
theorem Eqv.trans{T T' T'' :Tb}(h:Eqv m n T T')(h' :Eqv m n T' T''):Eqv m n T T'' :=⟨fun d=>(h.h d).trans (h'.h d),fun d hd=>(h.c d hd).trans (h'.c d ((h.h d).1 hd))⟩
theorem q5r(f g d:Nat→Rat)(a:Rat):d4 n (fun j=>(f j-a*g j)*d j)=d4 n (fun j=>f j*d j)-a*d4 n (fun j=>g j*d j):=by
 have e:d4 n (fun j=>(f j-a*g j)*d j)=d4 n (fun j=>f j*d j+(-a)*(g j*d j)):=cp fun j _=>by grind
 rw[e,ql2,qho]
 grind
theorem jc4(f d:Nat→Rat)(a:Rat):d4 n (fun j=>f j/a*d j)=d4 n (fun j=>f j*d j)/a:=by
 have e:d4 n (fun j=>f j/a*d j)=d4 n (fun j=>a⁻¹*(f j*d j)):=cp fun j _=>by rw[Rat.div_def];grind
 rw[e,qho,Rat.div_def]
 grind
theorem Eqv.piv{T:Tb}{r k:Nat}(hr:r<m)(hp:T.A r k≠0):Eqv m n T (T.piv r k):=by
 have hrow:∀d:Nat→Rat,d4 n (fun j=>(T.piv r k).A r j*d j)=d4 n (fun j=>T.A r j*d j)/T.A r k:=fun d=>by
  rw[←jc4];exact cp fun j _=>by simp[Tb.piv]
 have hoth:∀(d:Nat→Rat) i,i≠r→d4 n (fun j=>(T.piv r k).A i j*d j)=d4 n (fun j=>T.A i j*d j)-T.A i k*(d4 n (fun j=>T.A r j*d j)/T.A r k):=fun d i hi=>by
  rw[←jc4,←q5r];exact cp fun j _=>by simp[Tb.piv,hi]
 have hcost:∀d:Nat→Rat,(T.piv r k).cd n d=T.cd n d-T.c k*(d4 n (fun j=>T.A r j*d j)/T.A r k):=fun d=>by
  unfold Tb.cd;rw[←jc4,←q5r];rfl
 refine⟨fun d=>⟨fun h i hi=> ?_,fun h i hi=> ?_⟩,fun d h=> ?_⟩
 ·by_cases e:i=r
  ·subst e;rw[hrow,h i hi]
   grind
  ·rw[hoth d i e,h i hi,h r hr]
   grind
 ·have h0:d4 n (fun j=>T.A r j*d j)=0:=by
   have:=h r hr;rw[hrow]at this
   grind
  by_cases e:i=r
  ·rw[e];exact h0
  ·have:=h i hi;rw[hoth d i e,h0]at this
   grind
 ·rw[hcost,h r hr]
  grind
structure Bas (m n : Nat) (T : Tb) : Prop where
 lt : ∀ i, i < m → T.B i < n
 one : ∀ i, i < m → T.A i (T.B i) = 1
 zero : ∀ i l, i < m → l < m → l ≠ i → T.A l (T.B i) = 0
 cost : ∀ i, i < m → T.c (T.B i) = 0
theorem Bas.inj{T:Tb}(h:Bas m n T){i l:Nat}(hi:i<m)(hl:l<m)(e:T.B i=T.B l):i=l:=by
 by_cases hil:l=i
 ·exact hil.symm
 ·have h1:=h.zero i l hi hl hil;rw[e,h.one l hl]at h1;exact absurd h1 (by decide)
def Tb.isB(m:Nat)(T:Tb)(v:Nat):Prop:=∃i,i<m∧T.B i=v
theorem Bas.piv{T:Tb}(h:Bas m n T){r k:Nat}(hr:r<m)(hk:k<n)(hp:T.A r k≠0)(hnb:¬T.isB m k):Bas m n (T.piv r k):=by
 have hne:∀i,i<m→T.B i≠k:=fun i hi e=>hnb ⟨i,hi,e⟩
 refine⟨fun i hi=> ?_,fun i hi=> ?_,fun i l hi hl hli=> ?_,fun i hi=> ?_⟩
 ·simp only[Tb.piv];split
  ·exact hk
  ·exact h.lt i hi
 ·simp only[Tb.piv];by_cases e:i=r
  ·subst e;simp only[if_pos]
   grind
  ·simp only[if_neg e];rw[h.one i hi,h.zero i r hi hr (fun e' =>e e'.symm)]
   grind
 ·simp only[Tb.piv];by_cases e:i=r
  ·subst e;simp only[if_pos,if_neg hli]
   grind
  ·simp only[if_neg e];by_cases e2:l=r
   ·subst e2;simp only[if_pos];rw[h.zero i l hi hl hli]
    grind
   ·simp only[if_neg e2];rw[h.zero i l hi hl hli,h.zero i r hi hr (fun e' =>e e'.symm)]
    grind
 ·simp only[Tb.piv];by_cases e:i=r
  ·subst e;simp only[if_pos]
   grind
  ·simp only[if_neg e];rw[h.cost i hi,h.zero i r hi hr (fun e' =>e e'.symm)]
   grind
def Tb.dir(m:Nat)(T:Tb)(s:Nat)(j:Nat):Rat:=(if j=s then 1 else 0)-d4 m (fun i=>if T.B i=j then T.A i s else 0)
theorem qw1(f:Nat→Rat){T:Tb}(h:Bas m n T){s:Nat}(hs:s<n):d4 n (fun j=>f j*T.dir m s j)=f s-d4 m (fun i=>f (T.B i)*T.A i s):=by
 have e1:d4 n (fun j=>f j*T.dir m s j)=d4 n (fun j=>f j*(if j=s then 1 else 0)+(-1)*d4 m (fun i=>f j*(if T.B i=j then T.A i s else 0))):=cp fun j _=>by
  rw[qho];unfold Tb.dir
  grind
 rw[e1,ql2,qho,qhp hs fun j _ hne=>by rw[if_neg hne];grind,if_pos rfl,qw3];have e2:d4 m (fun i=>d4 n (fun j=>f j*(if T.B i=j then T.A i s else 0)))=d4 m (fun i=>f (T.B i)*T.A i s):=cp fun i hi=>by
  rw[qhp (h.lt i hi) fun j _ hne=>by rw[if_neg (fun e=>hne e.symm)];grind,if_pos rfl]
 rw[e2]
 grind
theorem jbm{T:Tb}(h:Bas m n T){s:Nat}(hs:s<n):T.hom m n (T.dir m s):=fun i hi=>by
 rw[qw1 _ h hs,qhp hi fun l hl hne=>by rw[h.zero l i hl hi (fun e=>hne e.symm)];grind,h.one i hi]
 grind
theorem q3h{T:Tb}(h:Bas m n T){s:Nat}(hs:s<n):T.cd n (T.dir m s)=T.c s:=by
 unfold Tb.cd;rw[qw1 _ h hs,qdc fun i hi=>by rw[h.cost i hi];grind]
 grind
structure Ent (vars : Nat) (T : Tb) (k : Nat) : Prop where
 lt : k < vars
 neg : T.c k < 0
 fst : ∀ j, j < k → 0 ≤ T.c j
structure Lev (m e : Nat) (T : Tb) (r k : Nat) : Prop where
 lt : r < m
 pos : 0 < T.A r k
 min : ∀ i, i < m → 0 < T.A i k → T.A r e / T.A r k < T.A i e / T.A i k ∨ (T.A r e / T.A r k = T.A i e / T.A i k ∧ T.B r ≤ T.B i)
theorem jzc{e vars:Nat}(hv:vars≤n){P Q:Tb}(hE:Eqv m n P Q)(hP:Bas m n P)(hQ:Bas m n Q){s r t:Nat}(hs:Ent vars P s)(hr:Lev m e P r s)(ht:P.B r=t)(hr0:P.A r e=0)(hq:Ent vars Q t)
  (hst:s<t) (hfl:∀i,i<m→¬Q.isB m (P.B i)→P.B i≤t∧P.A i e=0):False:=by
 have hsn:s<n:=Nat.lt_of_lt_of_le hs.lt hv;have h1:=hE.c _ (jbm hP hsn);rw[q3h hP hsn]at h1;unfold Tb.cd at h1;rw[qw1 _ hP hsn]at h1;have h2:=hq.fst s hst;have h3:=hs.neg;obtain⟨i,hi,hpos⟩:=jkb (f:=fun i=>Q.c (P.B i)*P.A i s) (n:=m) (by grind);have hnz:Q.c (P.B i)≠0:=fun e=>by rw[e]at hpos;grind
 have hnB:¬Q.isB m (P.B i):=fun⟨l,hl,e⟩=>hnz (by rw[←e];exact hQ.cost l hl)
 obtain⟨hle,hb0⟩:=hfl i hi hnB;by_cases e2:P.B i=t
 ·have hir:i=r:=hP.inj hi hr.lt (e2.trans ht.symm);subst hir;rw[e2]at hpos;have h4:=hq.neg;have h5:=hr.pos;have:Q.c t*P.A i s<0:=by
   have:=Rat.mul_pos (a:= -Q.c t) (b:=P.A i s) (by grind) h5
   grind
  grind
 ·have h4:=hq.fst (P.B i) (by omega);have h5:0<P.A i s:=by
   by_cases h6:0<P.A i s
   ·exact h6
   ·exfalso;have h7:0≤Q.c (P.B i)*(-P.A i s):=Rat.mul_nonneg h4 (by grind)
    grind
  have e3:P.A r e/P.A r s=0:=by rw[hr0,Rat.div_def];grind
  have e4:P.A i e/P.A i s=0:=by rw[hb0,Rat.div_def];grind
  have h8:=hr.min i hi h5;rw[e3,e4]at h8;rcases h8 with h8|⟨_,h8⟩
  ·exact absurd h8 (by decide)
  ·omega
structure Rn (m e vars L : Nat) (T : Nat → Tb) (k r : Nat → Nat) : Prop where
 ve : vars ≤ e
 bas : ∀ i, i < m → (T 0).B i < e
 bas0 : Bas m (e + 1) (T 0)
 fea : ∀ i, i < m → 0 ≤ (T 0).A i e
 ent : ∀ j, j < L → Ent vars (T j) (k j)
 lev : ∀ j, j < L → Lev m e (T j) (r j) (k j)
 stp : ∀ j, j < L → T (j + 1) = (T j).piv (r j) (k j)
section
variable {e vars L : Nat} {T : Nat → Tb} {k r : Nat → Nat}
theorem jo8{x:Rat}(h:0<x):x≠0:=by grind
theorem Rn.all(h:Rn m e vars L T k r):∀j,j≤L→Bas m (e+1) (T j)∧(∀i,i<m→(T j).B i<e)∧(∀i,i<m→0≤(T j).A i e)∧Eqv m (e+1) (T 0) (T j):=by
 intro j
 induction j with
 |zero=>intro _;exact⟨h.bas0,h.bas,h.fea,Eqv.refl _⟩
 |succ j ih=>
  intro hj;obtain⟨h1,h2,h3,h4⟩:=ih (by omega);have hl:=h.lev j (by omega);have hen:=h.ent j (by omega);have hve:=h.ve;have hp:=jo8 hl.pos;have hkl:=hen.lt;have hnb:¬(T j).isB m (k j):=fun⟨i,hi,e1⟩=>by
   have:=h1.cost i hi;rw[e1]at this;have:=hen.neg
   grind
  rw[h.stp j (by omega)];refine⟨h1.piv hl.lt (by omega) hp hnb,fun i hi=> ?_,fun i hi=> ?_,h4.trans (Eqv.piv hl.lt hp)⟩
  ·simp only[Tb.piv];split
   ·omega
   ·exact h2 i hi
  ·have hq:0≤(T j).A (r j) e/(T j).A (r j) (k j):=by
    rw[Rat.div_def];exact Rat.mul_nonneg (h3 _ hl.lt) (by have:=Rat.inv_pos.2 hl.pos;grind)
   simp only[Tb.piv];split
   ·exact hq
   ·by_cases hpos:0<(T j).A i (k j)
    ·have hm:(T j).A (r j) e/(T j).A (r j) (k j)≤(T j).A i e/(T j).A i (k j):=by
      rcases hl.min i hi hpos with h5|⟨h5,_⟩<;>grind
     have h6:(T j).A i (k j)*((T j).A (r j) e/(T j).A (r j) (k j))≤(T j).A i (k j)*((T j).A i e/(T j).A i (k j)):=Rat.mul_le_mul_of_nonneg_left hm (by grind);have h7:(T j).A i (k j)*((T j).A i e/(T j).A i (k j))=(T j).A i e:=by
      have:=jo8 hpos
      grind
     grind
    ·have h6:0≤(-(T j).A i (k j))*((T j).A (r j) e/(T j).A (r j) (k j)):=Rat.mul_nonneg (by grind) hq;have h7:=h3 i hi
     grind
theorem Rn.cost(h:Rn m e vars L T k r){j:Nat}(hj:j<L):(T j).c e≤(T (j+1)).c e∧((T (j+1)).c e=(T j).c e→(T j).A (r j) e=0):=by
 obtain⟨_,_,h3,_⟩:=h.all j (by omega);have hl:=h.lev j hj;have hneg:=(h.ent j hj).neg;have hp:=hl.pos;have hb:=h3 _ hl.lt;have e1:(T (j+1)).c e=(T j).c e+(-(T j).c (k j))*((T j).A (r j) e/(T j).A (r j) (k j)):=by
  rw[h.stp j hj];simp only[Tb.piv]
  grind
 have hq:0≤(T j).A (r j) e/(T j).A (r j) (k j):=by
  rw[Rat.div_def];exact Rat.mul_nonneg hb (by have:=Rat.inv_pos.2 hp;grind)
 refine⟨?_,fun e2=> ?_⟩
 ·have:=Rat.mul_nonneg (a:= -(T j).c (k j)) (by grind) hq
  grind
 ·by_cases h0:(T j).A (r j) e=0
  ·exact h0
  ·exfalso;have hb' :0<(T j).A (r j) e:=by grind
   have hq' :0<(T j).A (r j) e/(T j).A (r j) (k j):=by
    rw[Rat.div_def];exact Rat.mul_pos hb' (Rat.inv_pos.2 hp)
   have:=Rat.mul_pos (a:= -(T j).c (k j)) (by grind) hq'
   grind
theorem Rn.mono(h:Rn m e vars L T k r){a:Nat}:∀{b:Nat},a≤b→b≤L→(T a).c e≤(T b).c e
 |0,hab,_=>by rw[show a=0 by omega];grind
 |b+1,hab,hb=>by
  by_cases e1:a=b+1
  ·rw[e1];grind
  ·have h1:=h.mono (a:=a) (b:=b) (by omega) (by omega);have h2:=(h.cost (j:=b) (by omega)).1
   grind
theorem Rn.eqv(h:Rn m e vars L T k r){a b:Nat}(ha:a≤L)(hb:b≤L):Eqv m (e+1) (T a) (T b):=(h.all a ha).2.2.2.symm.trans (h.all b hb).2.2.2
theorem Rn.same(h:Rn m e vars L T k r){a b:Nat}(ha:a≤L)(hb:b≤L)(hs:∀v,(T a).isB m v→(T b).isB m v):(T a).c e=(T b).c e:=by
 have h1:=(h.all a ha).1;have h2:=(h.all b hb).1;have h3:=(h.eqv ha hb).c _ (jbm h1 (Nat.lt_succ_self e));rw[q3h h1 (Nat.lt_succ_self e)]at h3;unfold Tb.cd at h3;rw[qw1 _ h1 (Nat.lt_succ_self e),qdc (n:=m) fun i hi=>by
  obtain⟨l,hl,hle⟩:=hs _ ⟨i,hi,rfl⟩;rw[←hle,h2.cost l hl]
  grind]at h3
 grind
theorem Rn.const(h:Rn m e vars L T k r){p:Nat}:∀{q:Nat},p≤q→q≤L→(∀j,p≤j→j<q→(T j).A (r j) e=0)→∀i,i<m→(T q).A i e=(T p).A i e
 |0,hpq,_,_,i,_=>by rw[show p=0 by omega]
 |q+1,hpq,hq,hd,i,hi=>by
  by_cases e1:p=q+1
  ·rw[e1]
  ·have ih:=h.const (p:=p) (q:=q) (by omega) (by omega) (fun j h1 h2=>hd j h1 (by omega)) i hi;have h0:=hd q (by omega) (by omega);rw[h.stp q (by omega)];simp only[Tb.piv];split
   ·rename_i e2;subst e2;rw[←ih,h0,Rat.div_def]
    grind
   ·rw[h0,ih,Rat.div_def]
    grind
theorem Rn.row(h:Rn m e vars L T k r){p i:Nat}:∀{q:Nat},p≤q→q≤L→(T q).B i≠(T p).B i→∃j,p≤j∧j<q∧r j=i
 |0,hpq,_,hne=>absurd (by rw[show p=0 by omega]) hne
 |q+1,hpq,hq,hne=>by
  by_cases e1:p=q+1
  ·exact absurd (by rw[e1]) hne
  ·by_cases e2:r q=i
   ·exact⟨q,by omega,by omega,e2⟩
   ·have e3:(T (q+1)).B i=(T q).B i:=by
     rw[h.stp q (by omega)];simp only[Tb.piv];rw[if_neg (fun e4=>e2 e4.symm)]
    rw[e3]at hne;obtain⟨j,h1,h2,h3⟩:=h.row (p:=p) (q:=q) (by omega) (by omega) hne;exact⟨j,h1,by omega,h3⟩
theorem Rn.ins(h:Rn m e vars L T k r){p v:Nat}(hp:¬(T p).isB m v):∀{q:Nat},p≤q→q≤L→(T q).isB m v→∃j,p≤j∧j<q∧k j=v
 |0,hpq,_,hq=>absurd (by rw[show p=0 by omega];exact hq) hp
 |q+1,hpq,hL,hq=>by
  by_cases e1:p=q+1
  ·exact absurd (by rw[e1];exact hq) hp
  ·by_cases hb:(T q).isB m v
   ·obtain⟨j,h1,h2,h3⟩:=h.ins hp (q:=q) (by omega) (by omega) hb;exact⟨j,h1,by omega,h3⟩
   ·obtain⟨i,hi,e2⟩:=hq;rw[h.stp q (by omega)]at e2;simp only[Tb.piv]at e2;by_cases e3:i=r q
    ·rw[if_pos e3]at e2;exact⟨q,by omega,by omega,e2⟩
    ·rw[if_neg e3]at e2;exact absurd ⟨i,hi,e2⟩ hb
theorem Rn.outs(h:Rn m e vars L T k r){p v:Nat}(hp:(T p).isB m v):∀{q:Nat},p≤q→q≤L→¬(T q).isB m v→∃j,p≤j∧j<q∧(T j).B (r j)=v
 |0,hpq,_,hq=>absurd (by rw[show 0=p by omega];exact hp) hq
 |q+1,hpq,hL,hq=>by
  by_cases e1:p=q+1
  ·exact absurd (by rw[←e1];exact hp) hq
  ·by_cases hb:(T q).isB m v
   ·obtain⟨i,hi,e2⟩:=hb;by_cases e3:i=r q
    ·subst e3;exact⟨q,by omega,by omega,e2⟩
    ·refine absurd ⟨i,hi,?_⟩ hq;rw[h.stp q (by omega)];simp only[Tb.piv,if_neg e3];exact e2
   ·obtain⟨j,h1,h2,h3⟩:=h.outs hp (q:=q) (by omega) (by omega) hb;exact⟨j,h1,by omega,h3⟩
theorem jsl(f:Nat→Nat){a:Nat}:∀{b:Nat},a<b→∃q,a≤q∧q<b∧∀j,a≤j→j<b→f j≤f q
 |0,h=>by omega
 |b+1,h=>by
  by_cases e1:a=b
  ·subst e1;exact⟨a,Nat.le_refl _,by omega,fun j h1 h2=>by rw[show j=a by omega];exact Nat.le_refl _⟩
  ·obtain⟨q,h1,h2,h3⟩:=jsl f (a:=a) (b:=b) (by omega);by_cases hlt:f q<f b
   ·refine⟨b,by omega,by omega,fun j g1 g2=> ?_⟩;by_cases e2:j=b
    ·rw[e2];exact Nat.le_refl _
    ·have:=h3 j g1 (by omega);omega
   ·refine⟨q,h1,by omega,fun j g1 g2=> ?_⟩;by_cases e2:j=b
    ·rw[e2];omega
    ·exact h3 j g1 (by omega)
theorem Rn.once(h:Rn m e vars L T k r){a b:Nat}(hab:a<b)(hb:b≤L)(hs:∀v,(T a).isB m v↔(T b).isB m v):False:=by
 have hve:=h.ve;have hw:=h.same (a:=a) (b:=b) (by omega) hb fun v=>(hs v).1
 have hdeg:∀j,a≤j→j<b→(T j).A (r j) e=0:=fun j h1 h2=>by
  refine(h.cost (j:=j) (by omega)).2 ?_;have g1:=h.mono (a:=a) (b:=j) h1 (by omega);have g2:=(h.cost (j:=j) (by omega)).1;have g3:=h.mono (a:=j+1) (b:=b) (by omega) hb
  grind
 obtain⟨q,q1,q2,qmax⟩:=jsl k hab;have hmv:∀{x y v:Nat},a≤x→x≤y→y≤b→((T x).isB m v∧¬(T y).isB m v∨¬(T x).isB m v∧(T y).isB m v)→v≤k q:=by
  intro x y v hx hxy hy hc;have hin:∀{x y:Nat},a≤x→x≤y→y≤b→¬(T x).isB m v→(T y).isB m v→v≤k q:=fun hx hxy hy h1 h2=>by
   obtain⟨j,g1,g2,g3⟩:=h.ins h1 hxy (by omega) h2;rw[←g3];exact qmax j (by omega) (by omega)
  rcases hc with⟨h1,h2⟩|⟨h1,h2⟩
  ·by_cases hbb:(T b).isB m v
   ·exact hin (x:=y) (y:=b) (by omega) (by omega) (Nat.le_refl _) h2 hbb
   ·exact hin (x:=a) (y:=x) (Nat.le_refl _) (by omega) (by omega) (fun h3=>hbb ((hs v).1 h3)) h1
  ·exact hin hx hxy hy h1 h2
 have hqL:q<L:=by omega
 have hnq:¬(T q).isB m (k q):=fun⟨i,hi,e1⟩=>by
  have:=(h.all q (by omega)).1.cost i hi;rw[e1]at this;have:=(h.ent q hqL).neg
  grind
 have hq1:(T (q+1)).isB m (k q):=⟨r q,(h.lev q hqL).lt,by rw[h.stp q hqL];simp[Tb.piv]⟩;have hlv:∃p,a≤p∧p<b∧(T p).B (r p)=k q:=by
  by_cases hbb:(T b).isB m (k q)
  ·obtain⟨j,g1,g2,g3⟩:=h.outs ((hs _).2 hbb) (q:=q) q1 (by omega) hnq;exact⟨j,g1,by omega,g3⟩
  ·obtain⟨j,g1,g2,g3⟩:=h.outs hq1 (q:=b) (by omega) hb hbb;exact⟨j,by omega,g2,g3⟩
 obtain⟨p,p1,p2,p3⟩:=hlv;have hpL:p<L:=by omega
 have hkp:=qmax p p1 p2;have hne:k p≠k q:=fun e1=>by
  have:¬(T p).isB m (k p):=fun⟨i,hi,e2⟩=>by
   have:=(h.all p (by omega)).1.cost i hi;rw[e2]at this;have:=(h.ent p hpL).neg
   grind
  exact this ⟨r p,(h.lev p hpL).lt,p3.trans e1.symm⟩
 refine jzc (n:=e+1) (e:=e) (vars:=vars) (by omega) (h.eqv (a:=p) (b:=q) (by omega) (by omega)) (h.all p (by omega)).1 (h.all q (by omega)).1 (h.ent p hpL) (h.lev p hpL) p3 (hdeg p p1 p2) (h.ent q hqL) (by omega) fun i hi hnb=> ?_
 rcases Nat.le_total p q with hpq|hpq
 ·refine⟨hmv p1 hpq (by omega) (.inl ⟨⟨i,hi,rfl⟩,hnb⟩),?_⟩;obtain⟨j,g1,g2,g3⟩:=h.row (p:=p) (q:=q) (i:=i) hpq (by omega) fun e1=>hnb ⟨i,hi,e1⟩
  have h1:=hdeg j (by omega) (by omega);rw[g3]at h1;rw[←h.const (p:=p) (q:=j) g1 (by omega) (fun x x1 x2=>hdeg x (by omega) (by omega)) i hi];exact h1
 ·refine⟨hmv q1 hpq (by omega) (.inr ⟨hnb,⟨i,hi,rfl⟩⟩),?_⟩;obtain⟨j,g1,g2,g3⟩:=h.row (p:=q) (q:=p) (i:=i) hpq (by omega) fun e1=>hnb ⟨i,hi,e1.symm⟩
  have h1:=hdeg j (by omega) (by omega);rw[g3]at h1;rw[h.const (p:=j) (q:=p) (by omega) (by omega) (fun x x1 x2=>hdeg x (by omega) (by omega)) i hi];exact h1
def qr6(P:Nat→Bool):Nat→Nat
 |0=>0
 |n+1=>qr6 P n+if P n=true then 2 ^ n else 0
theorem qu3(P:Nat→Bool):∀n,qr6 P n<2 ^ n
 |0=>by show 0<2 ^ 0;decide
 |n+1=>by
  have:=qu3 P n;show qr6 P n+(if P n=true then 2 ^ n else 0)<2 ^ (n+1);rw[Nat.pow_succ];split<;>omega
theorem q90{P Q:Nat→Bool}:∀{n:Nat},qr6 P n=qr6 Q n→∀v,v<n→P v=Q v
 |0,_,v,hv=>by omega
 |n+1,h,v,hv=>by
  have h1:=qu3 P n;have h2:=qu3 Q n;have h:qr6 P n+(if P n=true then 2 ^ n else 0)=qr6 Q n+(if Q n=true then 2 ^ n else 0):=h;have h3:P n=Q n∧qr6 P n=qr6 Q n:=by
   cases hp:P n<;>cases hq:Q n<;>simp[hp,hq]at h⊢<;>omega
  by_cases e1:v=n
  ·rw[e1];exact h3.1
  ·exact q90 h3.2 v (by omega)
theorem q4l:∀(l q:List Nat),l.Nodup→(∀x∈l,x∈q)→l.length≤q.length
 |[],q,_,_=>by simp
 |a::l,q,hn,hs=>by
  obtain⟨h1,h2⟩:=List.nodup_cons.1 hn;have ha:a∈q:=hs a List.mem_cons_self;have ih:=q4l l (q.erase a) h2 (fun x hx=>(List.mem_erase_of_ne (fun e=>h1 (by rw[←e];exact hx))).2 (hs x (List.mem_cons_of_mem _ hx)));rw[List.length_erase_of_mem ha]at ih;have:0<q.length:=List.length_pos_of_mem ha;simp only[List.length_cons];omega
def Tb.inB(m:Nat)(T:Tb)(v:Nat):Bool:=(List.range m).any fun i=>decide (T.B i=v)
theorem jjf{T:Tb}{v:Nat}:T.inB m v=true↔T.isB m v:=by
 unfold Tb.inB Tb.isB;rw[List.any_eq_true];constructor
 ·rintro⟨i,hi,hd⟩;exact⟨i,List.mem_range.1 hi,of_decide_eq_true hd⟩
 ·rintro⟨i,hi,hd⟩;exact⟨i,List.mem_range.2 hi,decide_eq_true hd⟩
theorem Rn.short(h:Rn m e vars L T k r):L<2 ^ e:=by
 have hnd:((List.range (L+1)).map fun j=>qr6 ((T j).inB m) e).Nodup:=by
  rw[List.nodup_iff_pairwise_ne,List.pairwise_map];refine List.pairwise_lt_range.imp_of_mem fun{a b} ha hb hab hne=> ?_
  have hb' :=List.mem_range.1 hb;refine h.once hab (by omega) fun v=> ?_
  by_cases hv:v<e
  ·rw[←jjf,←jjf,q90 hne v hv]
  ·constructor
   ·rintro⟨i,hi,e1⟩;have:=(h.all a (by omega)).2.1 i hi;omega
   ·rintro⟨i,hi,e1⟩;have:=(h.all b (by omega)).2.1 i hi;omega
 have h1:=q4l _ (List.range (2 ^ e)) hnd fun x hx=>by
  obtain⟨j,_,rfl⟩:=List.mem_map.1 hx;exact List.mem_range.2 (qu3 _ _)
 rw[List.length_map,List.length_range,List.length_range]at h1;omega
end
end
end Go.K
