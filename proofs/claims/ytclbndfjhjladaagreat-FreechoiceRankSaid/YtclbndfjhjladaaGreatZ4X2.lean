/-
  Determinants: expansion by the last row, Cramer's rule, bounds, products. No program is named.
-/
import Derived.Test.YtclbndfjhjladaaGreatZ4X1
set_option linter.all false
namespace Go.M
open Go.K
section
variable {n : Nat} {F : (Nat → Nat → Int) → Int}
theorem Alt.swap'(h:Alt n F){c d:Nat}(hc:c<n)(hd:d<n)(hne:c≠d)(v:Nat→Nat→Int)(f g:Nat→Int):F (put (put v c f) d g)= -F (put (put v c g) d f):=by
 have same:∀f,F (put (put v c f) d f)=0:=fun f=>h.eq' hc hd hne (by rw[lg hne,mr,mr])
 have h1:=same fun k=>f k+g k
 rw[h.add _ _ _ _ hd,qs hne,qs hne,h.add _ _ _ _ hc,h.add _ _ _ _ hc,←qs hne,←qs hne,←qs hne,←qs hne,same f,same g]at h1;omega
end
def eu(s:Nat):Nat→Int:=fun k=>if k=s then 1 else 0
theorem jw7(s:Nat):eu s s=1:=if_pos rfl
theorem jr8{s k:Nat}(h:k≠s):eu s k=0:=if_neg h
theorem j6a(w:Nat→Int){n j:Nat}(h:j<n):a7 (fun s=>w s*eu s j) n=w j:=by
 rw[qet (i:=j) h fun k _ hne=>by rw[jr8 (Ne.symm hne),Int.mul_zero],jw7,Int.mul_one]
def jjd(B:Nat→Nat→Int)(s:Nat)(f:Nat→Int):Nat→Nat→Int:=fun i j=>if j=s then f i else B i j
theorem jw1(k:Nat)(B:Nat→Nat→Int):det (k+1) B=B k k*det k B-a7 (fun s=>B k s*det k (jjd B s fun i=>B i k)) k:=by
 have e1:det (k+1) B=det (k+1) (put B k fun j=>a7 (fun s=>B k s*eu s j) (k+1)):=by
  refine x5 _ fun i j hi hj=> ?_
  unfold put;split
  ·rename_i e;show B i j=a7 (fun s=>B k s*eu s j) (k+1);rw[j6a (B k) hj,e]
  ·rfl
 have e2:det (k+1) (put B k (eu k))=det k B:=by
  rw[qyu]
  ·rw[mr,jw7,Int.one_mul];exact x5 _ fun i j hi _=>by rw[lg (by omega)]
  ·intro j hj;rw[mr,jr8 (by omega)]
 have e3:∀s,s<k→det (k+1) (put B k (eu s))= -det k (jjd B s fun i=>B i k):=fun s hs=>by
  have h:=(qyt (k+1)).swap' (c:=s) (d:=k) (by omega) (by omega) (by omega) (tr (put B k (eu s))) (tr (put B k (eu s)) s) (tr (put B k (eu s)) k);rw[qsd,qsd]at h;have h0:tr (tr (put B k (eu s)))=put B k (eu s):=rfl;simp only[h0]at h;rw[h,qyu]
  ·have:tr (put (put (tr (put B k (eu s))) s (tr (put B k (eu s)) k)) k (tr (put B k (eu s)) s)) k k=1:=by
    unfold tr;rw[mr,mr,jw7]
   rw[this,Int.one_mul];congr 1;refine x5 _ fun i j hi hj=> ?_
   unfold tr jjd;rw[lg (by omega)];by_cases e:j=s
   ·subst e;rw[mr,lg (by omega),if_pos rfl]
   ·rw[lg e,lg (by omega),if_neg e]
  ·intro j hj;unfold tr;rw[lg (by omega)];by_cases e:j=s
   ·subst e;rw[mr,mr,jr8 (by omega)]
   ·rw[lg e,mr,jr8 e]
 have e0:∀f:Nat→Int,a7 (fun s=>B k s*f s) (k+1)=a7 (fun s=>B k s*f s) k+B k k*f k:=fun _=>rfl
 rw[e1,(jbg (k+1)).sum (by omega) B (B k) (fun s=>eu s),e0,e2];have e4:a7 (fun s=>B k s*det (k+1) (put B k (eu s))) k=a7 (fun s=>(-1)*(B k s*det k (jjd B s fun i=>B i k))) k:=b9 fun s hs=>by
  rw[e3 s hs];rw[Int.mul_neg,Int.neg_mul,Int.one_mul]
 rw[e4,mj];omega
def jbc(k:Nat)(B:Nat→Nat→Int)(f:Nat→Int)(w:Nat→Int)(x:Int):Nat→Nat→Int:=fun i j=>if i=k then(if j=k then x else w j)else(if j=k then f i else B i j)
theorem jpz(k:Nat)(B:Nat→Nat→Int)(f w:Nat→Int)(x:Int):det (k+1) (jbc k B f w x)=x*det k B-a7 (fun s=>w s*det k (jjd B s f)) k:=by
 rw[jw1];have h0:jbc k B f w x k k=x:=by simp[jbc]
 have h1:det k (jbc k B f w x)=det k B:=x5 _ fun i j hi hj=>by
  unfold jbc;rw[if_neg (by omega),if_neg (by omega)]
 rw[h0,h1];congr 1;refine b9 fun s hs=> ?_
 have h2:jbc k B f w x k s=w s:=by
  unfold jbc;rw[if_pos rfl,if_neg (by omega)]
 rw[h2];congr 1;refine x5 _ fun i j hi hj=> ?_
 simp only[jjd,jbc,if_true]
 repeat' split
 all_goals first|rfl|omega
theorem jt8{k:Nat}{B:Nat→Nat→Int}(hB:det k B≠0){x:Nat→Int}(h:∀u,u<k→a7 (fun s=>x s*B u s) k=0):∀s,s<k→x s=0:=by
 intro s hs;have hA:=qyt k;have h1:=hA.sum hs (tr B) x (tr B) k;have h2:det k (tr (put (tr B) s fun i=>a7 (fun u=>x u*tr B u i) k))=0:=by
  rw[←hA.zero hs (tr B)];refine x5 _ fun i j hi hj=> ?_
  unfold tr put;split
  ·exact h i hi
  ·rfl
 have h3:a7 (fun u=>x u*det k (tr (put (tr B) s (tr B u)))) k=x s*det k B:=by
  rw[qet (i:=s) hs fun u hu hne=> ?_]
  ·rw[qsd];rfl
  ·rw[hA.eq' (c:=s) (d:=u) hs hu (Ne.symm hne) (by rw[mr,lg hne]),Int.mul_zero]
 rw[h2,h3]at h1;exact(Int.mul_eq_zero.1 h1.symm).resolve_right hB
theorem jo0{f:Nat→Int}:∀{n:Nat},(∀k,k<n→0≤f k)→0≤a7 f n
 |0,_=>Int.le_refl _
 |n+1,h=>by
  have:=jo0 (n:=n) fun k hk=>h k (by omega)
  have:=h n (by omega);show 0≤a7 f n+f n;omega
theorem jfl{f:Nat→Int}{a:Nat}:∀{n:Nat},a<n→a7 (fun j=>if j=a then 0 else f j) n+f a=a7 f n
 |0,h=>by omega
 |n+1,h=>by
  show a7 (fun j=>if j=a then 0 else f j) n+(if n=a then 0 else f n)+f a=a7 f n+f n;by_cases e:n=a
  ·subst e;rw[if_pos rfl,b9 (g:=f) fun k hk=>if_neg (by omega)];omega
  ·rw[if_neg e];have:=jfl (f:=f) (a:=a) (n:=n) (by omega);omega
def Inj(q:Nat→Nat)(k C:Nat):Prop:=(∀b,b<k→q b<C)∧∀a b,a<k→b<k→q a=q b→a=b
theorem Inj.pre{q:Nat→Nat}{k C:Nat}(h:Inj q (k+1) C):Inj q k C:=⟨fun b hb=>h.1 b (by omega),fun a b ha hb=>h.2 a b (by omega) (by omega)⟩
theorem jsf{q:Nat→Nat}{C:Nat}:∀{k:Nat} {f:Nat→Int},Inj q k C→(∀j,j<C→0≤f j)→a7 (fun b=>f (q b)) k≤a7 f C
 |0,f,_,h0=>jo0 h0
 |k+1,f,h,h0=>by
  have h1:=jsf (k:=k) (f:=fun j=>if j=q k then 0 else f j) h.pre fun j hj=>by
   show 0≤if j=q k then 0 else f j
   split
   ·exact Int.le_refl _
   ·exact h0 j hj
  have h2:=jfl (f:=f) (h.1 k (by omega));have h3:a7 (fun b=>if q b=q k then 0 else f (q b)) k=a7 (fun b=>f (q b)) k:=b9 fun b hb=>if_neg fun e=>by
   have:=h.2 b k (by omega) (by omega) e;omega
  show a7 (fun b=>f (q b)) k+f (q k)≤a7 f C;omega
def zfl(j:Nat)(f:Nat→Int):Nat→Int:=fun c=>if c=j then 0 else f (if c<j then c else c-1)
def ins(n j:Nat)(w:Nat→Nat→Int):Nat→Nat→Int:=fun i=>if i<n then zfl j (w i)else eu j
end Go.M
