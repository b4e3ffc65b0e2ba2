/-
  Determinants: expansion by the last row, Cramer's rule, bounds, products. No program is named.
-/
import Derived.Test.YtclbndfjhjladaaGreatZ5X1
set_option linter.all false
namespace Go.M
open Go.K
section
variable {n : Nat} {F : (Nat → Nat → Int) → Int}
theorem Alt.swap'(h:Alt n F){c d:Nat}(hc:c<n)(hd:d<n)(hne:c≠d)(v:Nat→Nat→Int)(f g:Nat→Int):F (put (put v c f) d g)= -F (put (put v c g) d f):=by
 have same:∀f,F (put (put v c f) d f)=0:=fun f=>h.eq' hc hd hne (by rw[lm hne,mf,mf])
 have h1:=same fun k=>f k+g k
 rw[h.add _ _ _ _ hd,rf hne,rf hne,h.add _ _ _ _ hc,h.add _ _ _ _ hc,←rf hne,←rf hne,←rf hne,←rf hne,same f,same g]at h1;omega
end
def eu(s:Nat):Nat→Int:=fun k=>if k=s then 1 else 0
theorem jpc(s:Nat):eu s s=1:=if_pos rfl
theorem jjx{s k:Nat}(h:k≠s):eu s k=0:=if_neg h
theorem jyz(w:Nat→Int){n j:Nat}(h:j<n):af (fun s=>w s*eu s j) n=w j:=by
 rw[fc (i:=j) h fun k _ hne=>by rw[jjx (Ne.symm hne),Int.mul_zero],jpc,Int.mul_one]
def qoa(B:Nat→Nat→Int)(s:Nat)(f:Nat→Int):Nat→Nat→Int:=fun i j=>if j=s then f i else B i j
theorem jsu(B:Nat→Nat→Int)(s:Nat)(f:Nat→Int):qoa B s f=tr (put (tr B) s f):=by
 funext i j;unfold qoa tr put;split<;>rfl
theorem jo4(k:Nat)(B:Nat→Nat→Int):tq (k+1) B=B k k*tq k B-af (fun s=>B k s*tq k (qoa B s fun i=>B i k)) k:=by
 have e1:tq (k+1) B=tq (k+1) (put B k fun j=>af (fun s=>B k s*eu s j) (k+1)):=by
  refine fy _ fun i j hi hj=> ?_
  unfold put;split
  ·rename_i e;show B i j=af (fun s=>B k s*eu s j) (k+1);rw[jyz (B k) hj,e]
  ·rfl
 have e2:tq (k+1) (put B k (eu k))=tq k B:=by
  rw[quh]
  ·rw[mf,jpc,Int.one_mul];exact fy _ fun i j hi _=>by rw[lm (by omega)]
  ·intro j hj;rw[mf,jjx (by omega)]
 have e3:∀s,s<k→tq (k+1) (put B k (eu s))= -tq k (qoa B s fun i=>B i k):=fun s hs=>by
  have h:=(qi8 (k+1)).swap' (c:=s) (d:=k) (by omega) (by omega) (by omega) (tr (put B k (eu s))) (tr (put B k (eu s)) s) (tr (put B k (eu s)) k);rw[qgm,qgm]at h;have h0:tr (tr (put B k (eu s)))=put B k (eu s):=rfl;simp only[h0]at h;rw[h,quh]
  ·have:tr (put (put (tr (put B k (eu s))) s (tr (put B k (eu s)) k)) k (tr (put B k (eu s)) s)) k k=1:=by
    unfold tr;rw[mf,mf,jpc]
   rw[this,Int.one_mul];congr 1;refine fy _ fun i j hi hj=> ?_
   unfold tr qoa;rw[lm (by omega)];by_cases e:j=s
   ·subst e;rw[mf,lm (by omega),if_pos rfl]
   ·rw[lm e,lm (by omega),if_neg e]
  ·intro j hj;unfold tr;rw[lm (by omega)];by_cases e:j=s
   ·subst e;rw[mf,mf,jjx (by omega)]
   ·rw[lm e,mf,jjx e]
 have e0:∀f:Nat→Int,af (fun s=>B k s*f s) (k+1)=af (fun s=>B k s*f s) k+B k k*f k:=fun _=>rfl
 rw[e1,(qo2 (k+1)).sum (by omega) B (B k) (fun s=>eu s),e0,e2];have e4:af (fun s=>B k s*tq (k+1) (put B k (eu s))) k=af (fun s=>(-1)*(B k s*tq k (qoa B s fun i=>B i k))) k:=aj fun s hs=>by
  rw[e3 s hs];rw[Int.mul_neg,Int.neg_mul,Int.one_mul]
 rw[e4,bm];omega
def qn9(k:Nat)(B:Nat→Nat→Int)(f:Nat→Int)(w:Nat→Int)(x:Int):Nat→Nat→Int:=fun i j=>if i=k then(if j=k then x else w j)else(if j=k then f i else B i j)
theorem qs9(k:Nat)(B:Nat→Nat→Int)(f w:Nat→Int)(x:Int):tq (k+1) (qn9 k B f w x)=x*tq k B-af (fun s=>w s*tq k (qoa B s f)) k:=by
 rw[jo4];have h0:qn9 k B f w x k k=x:=by simp[qn9]
 have h1:tq k (qn9 k B f w x)=tq k B:=fy _ fun i j hi hj=>by
  unfold qn9;rw[if_neg (by omega),if_neg (by omega)]
 rw[h0,h1];congr 1;refine aj fun s hs=> ?_
 have h2:qn9 k B f w x k s=w s:=by
  unfold qn9;rw[if_pos rfl,if_neg (by omega)]
 rw[h2];congr 1;refine fy _ fun i j hi hj=> ?_
 simp only[qoa,qn9,if_true]
 repeat' split
 all_goals first|rfl|omega
theorem jym{k:Nat}(B:Nat→Nat→Int)(f:Nat→Int){u:Nat}(hu:u<k):af (fun s=>B u s*tq k (qoa B s f)) k=f u*tq k B:=by
 have h:=qs9 k B f (B u) (f u);rw[(qo2 (k+1)).eq' (c:=u) (d:=k) (by omega) (by omega) (by omega) (by
  funext j;unfold qn9;rw[if_neg (by omega),if_pos rfl])]at h
 omega
theorem qxu{k:Nat}{B:Nat→Nat→Int}(hB:tq k B≠0){x:Nat→Int}(h:∀u,u<k→af (fun s=>x s*B u s) k=0):∀s,s<k→x s=0:=by
 intro s hs;have hA:=qi8 k;have h1:=hA.sum hs (tr B) x (tr B) k;have h2:tq k (tr (put (tr B) s fun i=>af (fun u=>x u*tr B u i) k))=0:=by
  rw[←hA.zero hs (tr B)];refine fy _ fun i j hi hj=> ?_
  unfold tr put;split
  ·exact h i hi
  ·rfl
 have h3:af (fun u=>x u*tq k (tr (put (tr B) s (tr B u)))) k=x s*tq k B:=by
  rw[fc (i:=s) hs fun u hu hne=> ?_]
  ·rw[qgm];rfl
  ·rw[hA.eq' (c:=s) (d:=u) hs hu (Ne.symm hne) (by rw[mf,lm hne]),Int.mul_zero]
 rw[h2,h3]at h1;exact(Int.mul_eq_zero.1 h1.symm).resolve_right hB
def gl(f:Nat→Int):Nat→Int
 |0=>1
 |n+1=>gl f n*f n
theorem qp8{f g:Nat→Int}:∀{n:Nat},(∀k,k<n→f k=g k)→gl f n=gl g n
 |0,_=>rfl
 |n+1,h=>by rw[gl,gl,qp8 fun k hk=>h k (by omega),h n (by omega)]
theorem q6w{f:Nat→Int}:∀{n:Nat},(∀k,k<n→0≤f k)→0≤gl f n
 |0,_=>Int.one_nonneg
 |n+1,h=>Int.mul_nonneg (q6w fun k hk=>h k (by omega)) (h n (by omega))
theorem qtu{f g:Nat→Int}:∀{n:Nat},(∀k,k<n→0≤f k∧f k≤g k)→gl f n≤gl g n
 |0,_=>Int.le_refl _
 |n+1,h=>by
  have h1:=qtu (n:=n) fun k hk=>h k (by omega)
  have h2:=h n (by omega);exact Int.mul_le_mul h1 h2.2 h2.1 (Int.le_trans (q6w fun k hk=>(h k (by omega)).1) h1)
theorem q1b(f:Nat→Int):∀n,gl f (n+1)=f 0*gl (fun i=>f (i+1)) n
 |0=>by simp[gl]
 |n+1=>by
  have h:=q1b f n;have e:gl f (n+1+1)=gl f (n+1)*f (n+1):=rfl;rw[e,h,Int.mul_assoc];rfl
theorem qgw{f:Nat→Int}:∀{n:Nat},(∀k,k<n→0≤f k)→0≤af f n
 |0,_=>Int.le_refl _
 |n+1,h=>by
  have:=qgw (n:=n) fun k hk=>h k (by omega)
  have:=h n (by omega);show 0≤af f n+f n;omega
theorem q7w{f:Nat→Int}{a:Nat}:∀{n:Nat},a<n→af (fun j=>if j=a then 0 else f j) n+f a=af f n
 |0,h=>by omega
 |n+1,h=>by
  show af (fun j=>if j=a then 0 else f j) n+(if n=a then 0 else f n)+f a=af f n+f n;by_cases e:n=a
  ·subst e;rw[if_pos rfl,aj (g:=f) fun k hk=>if_neg (by omega)];omega
  ·rw[if_neg e];have:=q7w (f:=f) (a:=a) (n:=n) (by omega);omega
theorem q97{f:Nat→Int}{a:Nat}:∀{n:Nat},a<n→gl (fun j=>if j=a then 1 else f j) n*f a=gl f n
 |0,h=>by omega
 |n+1,h=>by
  show gl (fun j=>if j=a then 1 else f j) n*(if n=a then 1 else f n)*f a=gl f n*f n;by_cases e:n=a
  ·subst e;rw[if_pos rfl,qp8 (g:=f) fun k hk=>if_neg (by omega),Int.mul_one]
  ·rw[if_neg e,Int.mul_assoc,Int.mul_comm (f n),←Int.mul_assoc,q97 (by omega)]
def Inj(q:Nat→Nat)(k C:Nat):Prop:=(∀b,b<k→q b<C)∧∀a b,a<k→b<k→q a=q b→a=b
theorem Inj.pre{q:Nat→Nat}{k C:Nat}(h:Inj q (k+1) C):Inj q k C:=⟨fun b hb=>h.1 b (by omega),fun a b ha hb=>h.2 a b (by omega) (by omega)⟩
theorem q30{q:Nat→Nat}{C:Nat}:∀{k:Nat} {f:Nat→Int},Inj q k C→(∀j,j<C→0≤f j)→af (fun b=>f (q b)) k≤af f C
 |0,f,_,h0=>qgw h0
 |k+1,f,h,h0=>by
  have h1:=q30 (k:=k) (f:=fun j=>if j=q k then 0 else f j) h.pre fun j hj=>by
   show 0≤if j=q k then 0 else f j
   split
   ·exact Int.le_refl _
   ·exact h0 j hj
  have h2:=q7w (f:=f) (h.1 k (by omega));have h3:af (fun b=>if q b=q k then 0 else f (q b)) k=af (fun b=>f (q b)) k:=aj fun b hb=>if_neg fun e=>by
   have:=h.2 b k (by omega) (by omega) e;omega
  show af (fun b=>f (q b)) k+f (q k)≤af f C;omega
theorem q98{f:Nat→Int}:∀{n:Nat},(∀k,k<n→1≤f k)→1≤gl f n
 |0,_=>Int.le_refl _
 |n+1,h=>by
  have h1:=q98 (n:=n) fun k hk=>h k (by omega)
  have h2:=h n (by omega);have h3:1*1≤gl f n*f n:=Int.mul_le_mul h1 h2 (by omega) (by omega);exact h3
theorem jfb{q:Nat→Nat}{C:Nat}:∀{k:Nat} {f:Nat→Int},Inj q k C→(∀j,j<C→1≤f j)→gl (fun b=>f (q b)) k≤gl f C
 |0,f,_,h0=>q98 h0
 |k+1,f,h,h0=>by
  have h1:=jfb (k:=k) (f:=fun j=>if j=q k then 1 else f j) h.pre fun j hj=>by
   show 1≤if j=q k then 1 else f j
   split
   ·exact Int.le_refl _
   ·exact h0 j hj
  have h2:=q97 (f:=f) (h.1 k (by omega));have h3:gl (fun b=>if q b=q k then 1 else f (q b)) k=gl (fun b=>f (q b)) k:=qp8 fun b hb=>if_neg fun e=>by
   have:=h.2 b k (by omega) (by omega) e;omega
  have h4:=h0 _ (h.1 k (by omega));show gl (fun b=>f (q b)) k*f (q k)≤gl f C;rw[←h2,←h3];exact Int.mul_le_mul_of_nonneg_right h1 (by omega)
theorem jrc(j n:Nat):Inj (skip j) n (n+1):=⟨fun b hb=>qw9 hb,fun a b _ _ h=>by unfold skip at h;split at h<;>split at h<;>omega⟩
theorem jla{f g:Nat→Int}:∀{n:Nat},(∀k,k<n→-g k≤f k∧f k≤g k)→-af g n≤af f n∧af f n≤af g n
 |0,_=>by simp[af]
 |n+1,h=>by
  have:=jla (n:=n) fun k hk=>h k (by omega)
  have:=h n (by omega);show-(af g n+g n)≤af f n+f n∧af f n+f n≤af g n+g n;omega
theorem q9e:∀(n:Nat) (A f:Nat→Nat→Int),(∀i j,i<n→j<n→-f i j≤A i j∧A i j≤f i j)→-gl (fun i=>af (f i) n) n≤tq n A∧tq n A≤gl (fun i=>af (f i) n) n
 |0,_,_,_=>by simp[tq,gl]
 |n+1,A,f,h=>by
  have hnn:∀i j,i<n+1→j<n+1→0≤f i j:=fun i j hi hj=>by have:=h i j hi hj;omega
  rw[q1b];have hP:0≤gl (fun i=>af (f (i+1)) (n+1)) n:=q6w fun i hi=>qgw fun j hj=>hnn _ _ (by omega) hj
  have hd:∀j,j<n+1→-gl (fun i=>af (f (i+1)) (n+1)) n≤tq n (d8 A j)∧tq n (d8 A j)≤gl (fun i=>af (f (i+1)) (n+1)) n:=fun j hj=>by
   have h1:=q9e n (d8 A j) (fun i k=>f (i+1) (skip j k)) fun i k hi hk=>h _ _ (by omega) (qw9 hk)
   have h2:gl (fun i=>af (fun k=>f (i+1) (skip j k)) n) n≤gl (fun i=>af (f (i+1)) (n+1)) n:=qtu fun i hi=>⟨qgw fun k hk=>hnn _ _ (by omega) (qw9 hk),q30 (jrc j n) fun k hk=>hnn _ _ (by omega) hk⟩
   omega
  generalize gl (fun i=>af (f (i+1)) (n+1)) n=P at hP hd;have h3:=jla (f:=fun j=>pm j*A 0 j*tq n (d8 A j)) (g:=fun j=>f 0 j*P) (n:=n+1) fun j hj=>by
   have h4:=h 0 j (by omega) hj;have h5: -f 0 j≤pm j*A 0 j∧pm j*A 0 j≤f 0 j:=by
    unfold pm;split
    ·rw[Int.one_mul];exact h4
    ·rw[Int.neg_mul,Int.one_mul];omega
   exact oi h5 (hd j hj)
  rw[qcq]at h3;exact h3
def j8o(j:Nat)(f:Nat→Int):Nat→Int:=fun c=>if c=j then 0 else f (if c<j then c else c-1)
def ins(n j:Nat)(w:Nat→Nat→Int):Nat→Nat→Int:=fun i=>if i<n then j8o j (w i)else eu j
end Go.M
