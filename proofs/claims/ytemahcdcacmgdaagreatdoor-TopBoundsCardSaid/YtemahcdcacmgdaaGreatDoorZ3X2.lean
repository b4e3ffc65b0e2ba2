/-
  Determinants: expansion by the last row, Cramer's rule, bounds, products. No program is named.
-/
import Derived.Test.YtemahcdcacmgdaaGreatDoorZ3X1
set_option linter.all false
namespace Go.M
open Go.K
section
variable {n : Nat} {F : (Nat → Nat → Int) → Int}
theorem Alt.swap'(h:Alt n F){c d:Nat}(hc:c<n)(hd:d<n)(hne:c≠d)(v:Nat→Nat→Int)(f g:Nat→Int):F (put (put v c f) d g)= -F (put (put v c g) d f):=by
 have same:∀f,F (put (put v c f) d f)=0:=fun f=>h.eq' hc hd hne (by rw[ln hne,nr,nr])
 have h1:=same fun k=>f k+g k
 rw[h.add _ _ _ _ hd,rh hne,rh hne,h.add _ _ _ _ hc,h.add _ _ _ _ hc,←rh hne,←rh hne,←rh hne,←rh hne,same f,same g]at h1;omega
end
def eu(s:Nat):Nat→Int:=fun k=>if k=s then 1 else 0
theorem jso(s:Nat):eu s s=1:=if_pos rfl
theorem jna{s k:Nat}(h:k≠s):eu s k=0:=if_neg h
theorem j0p(w:Nat→Int){n j:Nat}(h:j<n):au (fun s=>w s*eu s j) n=w j:=by
 rw[qex (i:=j) h fun k _ hne=>by rw[jna (Ne.symm hne),Int.mul_zero],jso,Int.mul_one]
def je9(B:Nat→Nat→Int)(s:Nat)(f:Nat→Int):Nat→Nat→Int:=fun i j=>if j=s then f i else B i j
theorem jse(k:Nat)(B:Nat→Nat→Int):det (k+1) B=B k k*det k B-au (fun s=>B k s*det k (je9 B s fun i=>B i k)) k:=by
 have e1:det (k+1) B=det (k+1) (put B k fun j=>au (fun s=>B k s*eu s j) (k+1)):=by
  refine xz _ fun i j hi hj=> ?_
  unfold put;split
  ·rename_i e;show B i j=au (fun s=>B k s*eu s j) (k+1);rw[j0p (B k) hj,e]
  ·rfl
 have e2:det (k+1) (put B k (eu k))=det k B:=by
  rw[qxy]
  ·rw[nr,jso,Int.one_mul];exact xz _ fun i j hi _=>by rw[ln (by omega)]
  ·intro j hj;rw[nr,jna (by omega)]
 have e3:∀s,s<k→det (k+1) (put B k (eu s))= -det k (je9 B s fun i=>B i k):=fun s hs=>by
  have h:=(qxx (k+1)).swap' (c:=s) (d:=k) (by omega) (by omega) (by omega) (tr (put B k (eu s))) (tr (put B k (eu s)) s) (tr (put B k (eu s)) k);rw[qsl,qsl]at h;have h0:tr (tr (put B k (eu s)))=put B k (eu s):=rfl;simp only[h0]at h;rw[h,qxy]
  ·have:tr (put (put (tr (put B k (eu s))) s (tr (put B k (eu s)) k)) k (tr (put B k (eu s)) s)) k k=1:=by
    unfold tr;rw[nr,nr,jso]
   rw[this,Int.one_mul];congr 1;refine xz _ fun i j hi hj=> ?_
   unfold tr je9;rw[ln (by omega)];by_cases e:j=s
   ·subst e;rw[nr,ln (by omega),if_pos rfl]
   ·rw[ln e,ln (by omega),if_neg e]
  ·intro j hj;unfold tr;rw[ln (by omega)];by_cases e:j=s
   ·subst e;rw[nr,nr,jna (by omega)]
   ·rw[ln e,nr,jna e]
 have e0:∀f:Nat→Int,au (fun s=>B k s*f s) (k+1)=au (fun s=>B k s*f s) k+B k k*f k:=fun _=>rfl
 rw[e1,(q7w (k+1)).sum (by omega) B (B k) (fun s=>eu s),e0,e2];have e4:au (fun s=>B k s*det (k+1) (put B k (eu s))) k=au (fun s=>(-1)*(B k s*det k (je9 B s fun i=>B i k))) k:=bu fun s hs=>by
  rw[e3 s hs];rw[Int.mul_neg,Int.neg_mul,Int.one_mul]
 rw[e4,m9];omega
def q7c(k:Nat)(B:Nat→Nat→Int)(f:Nat→Int)(w:Nat→Int)(x:Int):Nat→Nat→Int:=fun i j=>if i=k then(if j=k then x else w j)else(if j=k then f i else B i j)
theorem jk1(k:Nat)(B:Nat→Nat→Int)(f w:Nat→Int)(x:Int):det (k+1) (q7c k B f w x)=x*det k B-au (fun s=>w s*det k (je9 B s f)) k:=by
 rw[jse];have h0:q7c k B f w x k k=x:=by simp[q7c]
 have h1:det k (q7c k B f w x)=det k B:=xz _ fun i j hi hj=>by
  unfold q7c;rw[if_neg (by omega),if_neg (by omega)]
 rw[h0,h1];congr 1;refine bu fun s hs=> ?_
 have h2:q7c k B f w x k s=w s:=by
  unfold q7c;rw[if_pos rfl,if_neg (by omega)]
 rw[h2];congr 1;refine xz _ fun i j hi hj=> ?_
 simp only[je9,q7c,if_true]
 repeat' split
 all_goals first|rfl|omega
theorem jpn{k:Nat}{B:Nat→Nat→Int}(hB:det k B≠0){x:Nat→Int}(h:∀u,u<k→au (fun s=>x s*B u s) k=0):∀s,s<k→x s=0:=by
 intro s hs;have hA:=qxx k;have h1:=hA.sum hs (tr B) x (tr B) k;have h2:det k (tr (put (tr B) s fun i=>au (fun u=>x u*tr B u i) k))=0:=by
  rw[←hA.zero hs (tr B)];refine xz _ fun i j hi hj=> ?_
  unfold tr put;split
  ·exact h i hi
  ·rfl
 have h3:au (fun u=>x u*det k (tr (put (tr B) s (tr B u)))) k=x s*det k B:=by
  rw[qex (i:=s) hs fun u hu hne=> ?_]
  ·rw[qsl];rfl
  ·rw[hA.eq' (c:=s) (d:=u) hs hu (Ne.symm hne) (by rw[nr,ln hne]),Int.mul_zero]
 rw[h2,h3]at h1;exact(Int.mul_eq_zero.1 h1.symm).resolve_right hB
theorem jjz{f:Nat→Int}:∀{n:Nat},(∀k,k<n→0≤f k)→0≤au f n
 |0,_=>Int.le_refl _
 |n+1,h=>by
  have:=jjz (n:=n) fun k hk=>h k (by omega)
  have:=h n (by omega);show 0≤au f n+f n;omega
theorem jam{f:Nat→Int}{a:Nat}:∀{n:Nat},a<n→au (fun j=>if j=a then 0 else f j) n+f a=au f n
 |0,h=>by omega
 |n+1,h=>by
  show au (fun j=>if j=a then 0 else f j) n+(if n=a then 0 else f n)+f a=au f n+f n;by_cases e:n=a
  ·subst e;rw[if_pos rfl,bu (g:=f) fun k hk=>if_neg (by omega)];omega
  ·rw[if_neg e];have:=jam (f:=f) (a:=a) (n:=n) (by omega);omega
def Inj(q:Nat→Nat)(k C:Nat):Prop:=(∀b,b<k→q b<C)∧∀a b,a<k→b<k→q a=q b→a=b
theorem Inj.pre{q:Nat→Nat}{k C:Nat}(h:Inj q (k+1) C):Inj q k C:=⟨fun b hb=>h.1 b (by omega),fun a b ha hb=>h.2 a b (by omega) (by omega)⟩
theorem jnh{q:Nat→Nat}{C:Nat}:∀{k:Nat} {f:Nat→Int},Inj q k C→(∀j,j<C→0≤f j)→au (fun b=>f (q b)) k≤au f C
 |0,f,_,h0=>jjz h0
 |k+1,f,h,h0=>by
  have h1:=jnh (k:=k) (f:=fun j=>if j=q k then 0 else f j) h.pre fun j hj=>by
   show 0≤if j=q k then 0 else f j
   split
   ·exact Int.le_refl _
   ·exact h0 j hj
  have h2:=jam (f:=f) (h.1 k (by omega));have h3:au (fun b=>if q b=q k then 0 else f (q b)) k=au (fun b=>f (q b)) k:=bu fun b hb=>if_neg fun e=>by
   have:=h.2 b k (by omega) (by omega) e;omega
  show au (fun b=>f (q b)) k+f (q k)≤au f C;omega
def j7g(j:Nat)(f:Nat→Int):Nat→Int:=fun c=>if c=j then 0 else f (if c<j then c else c-1)
def ins(n j:Nat)(w:Nat→Nat→Int):Nat→Nat→Int:=fun i=>if i<n then j7g j (w i)else eu j
end Go.M
