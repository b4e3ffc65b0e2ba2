/-
  Determinants of integers, by the first row: linear, alternating, bounded. No program is named.
-/
import Derived.Test.YtemahcdcacmgdaaGreatDoorZ3KE
set_option linter.all false
namespace Go.M
open Go.K
def pm(n:Nat):Int:=if n % 2=0 then 1 else-1
theorem jn0(n:Nat):pm (n+1)= -pm n:=by
 unfold pm;rcases Nat.mod_two_eq_zero_or_one n with h|h
 ·have h' :¬(n+1) % 2=0:=by omega
  rw[if_pos h,if_neg h']
 ·have h' :(n+1) % 2=0:=by omega
  have h2:¬n % 2=0:=by omega
  rw[if_pos h',if_neg h2];rfl
def skip(j k:Nat):Nat:=if k<j then k else k+1
def fh(A:Nat→Nat→Int)(j:Nat):Nat→Nat→Int:=fun i k=>A (i+1) (skip j k)
def det:Nat→(Nat→Nat→Int)→Int
 |0,_=>1
 |n+1,A=>au (fun j=>pm j*A 0 j*det n (fh A j)) (n+1)
theorem jxa{j k n:Nat}(h:k<n):skip j k<n+1:=by unfold skip;split<;>omega
theorem jxb(j k:Nat):skip j k≠j:=by unfold skip;split<;>omega
theorem xz:∀(n:Nat) {A B:Nat→Nat→Int},(∀i j,i<n→j<n→A i j=B i j)→det n A=det n B
 |0,_,_,_=>rfl
 |n+1,A,B,h=>by
  unfold det;refine bu fun j hj=> ?_
  rw[h 0 j (by omega) hj,xz n (A:=fh A j) (B:=fh B j) fun i k hi hk=>h (i+1) (skip j k) (by omega) (jxa hk)]
def put(v:Nat→Nat→Int)(c:Nat)(f:Nat→Int):Nat→Nat→Int:=fun i=>if i=c then f else v i
theorem qsl(v:Nat→Nat→Int)(c:Nat):put v c (v c)=v:=by
 funext i;unfold put;split
 ·rename_i h;rw[h]
 ·rfl
theorem nr(v:Nat→Nat→Int)(c:Nat)(f:Nat→Int):put v c f c=f:=if_pos rfl
theorem ln{v:Nat→Nat→Int}{c i:Nat}{f:Nat→Int}(h:i≠c):put v c f i=v i:=if_neg h
theorem rh{v:Nat→Nat→Int}{c d:Nat}(h:c≠d)(f g:Nat→Int):put (put v c f) d g=put (put v d g) c f:=by
 funext i;unfold put;by_cases h1:i=c
 ·have h2:¬i=d:=fun e=>h (h1.symm.trans e)
  simp[h1,h2,h]
 ·by_cases h2:i=d
  ·simp[h2,Ne.symm h]
  ·simp[h1,h2]
structure Alt (n : Nat) (F : (Nat → Nat → Int) → Int) : Prop where
 add : ∀ v c f g, c < n → F (put v c fun k => f k + g k) = F (put v c f) + F (put v c g)
 mul : ∀ v c a f, c < n → F (put v c fun k => a * f k) = a * F (put v c f)
 adj : ∀ v c, c + 1 < n → v c = v (c + 1) → F v = 0
section
variable {n : Nat} {F : (Nat → Nat → Int) → Int}
theorem Alt.swap(h:Alt n F){c:Nat}(hc:c+1<n)(v:Nat→Nat→Int)(f g:Nat→Int):F (put (put v c f) (c+1) g)= -F (put (put v c g) (c+1) f):=by
 have hne:c≠c+1:=by omega
 have same:∀f,F (put (put v c f) (c+1) f)=0:=fun f=>h.adj _ c hc (by rw[ln hne,nr,nr])
 have h1:=same fun k=>f k+g k
 rw[h.add _ _ _ _ hc,rh hne,rh hne,h.add _ _ _ _ (by omega),h.add _ _ _ _ (by omega),←rh hne,←rh hne,←rh hne,←rh hne,same f,same g]at h1;omega
theorem Alt.eq(h:Alt n F):∀(k c:Nat),c+1+k<n→∀v:Nat→Nat→Int,v c=v (c+1+k)→F v=0
 |0,c,hc,v,hv=>h.adj v c hc hv
 |k+1,c,hc,v,hv=>by
  have hc' :c+1+k+1<n:=by omega
  have e1:put (put v (c+1+k) (v (c+1+k))) (c+1+k+1) (v (c+1+k+1))=v:=by rw[qsl,qsl]
  have h1:=h.swap hc' v (v (c+1+k)) (v (c+1+k+1));rw[e1]at h1;rw[h1,Alt.eq h k c (by omega) _ ?_]
  ·rfl
  ·rw[ln (by omega),ln (by omega),ln (by omega),nr];exact hv
theorem Alt.eq'(h:Alt n F){c d:Nat}(hc:c<n)(hd:d<n)(hne:c≠d){v:Nat→Nat→Int}(hv:v c=v d):F v=0:=by
 rcases Nat.lt_or_gt_of_ne hne with hlt|hlt
 ·exact h.eq (d-c-1) c (by omega) v (by rw[show c+1+(d-c-1)=d by omega];exact hv)
 ·exact h.eq (c-d-1) d (by omega) v (by rw[show d+1+(c-d-1)=c by omega];exact hv.symm)
theorem Alt.zero(h:Alt n F){c:Nat}(hc:c<n)(v:Nat→Nat→Int):F (put v c fun _=>0)=0:=by
 have:=h.mul v c 0 (fun _=>0) hc;simp only[Int.zero_mul]at this;exact this
theorem Alt.sum(h:Alt n F){c:Nat}(hc:c<n)(v:Nat→Nat→Int)(a:Nat→Int)(f:Nat→Nat→Int):∀m,F (put v c fun k=>au (fun u=>a u*f u k) m)=au (fun u=>a u*F (put v c (f u))) m
 |0=>h.zero hc v
 |m+1=>by
  simp only[au];rw[h.add v c _ _ hc,Alt.sum h hc v a f m,h.mul v c _ _ hc]
end
theorem jd4{f:Nat→Int}{i:Nat}:∀{n:Nat},i+1<n→(∀k,k<n→k≠i→k≠i+1→f k=0)→au f n=f i+f (i+1)
 |0,h,_=>by omega
 |n+1,h,h0=>by
  have e:au f (n+1)=au f n+f n:=rfl;rw[e];by_cases e:n=i+1
  ·subst e;rw[qex (i:=i) (by omega) fun k hk hne=>h0 k (by omega) hne (by omega)]
  ·rw[jd4 (i:=i) (by omega) fun k hk h1 h2=>h0 k (by omega) h1 h2,h0 n (by omega) (by omega) e];omega
theorem job{j k c:Nat}(h:c≠j):skip j k=c↔k=(if c<j then c else c-1):=by
 unfold skip;split<;>split<;>omega
def tr(A:Nat→Nat→Int):Nat→Nat→Int:=fun i j=>A j i
theorem zp{v:Nat→Nat→Int}{c j:Nat}(h:c≠j)(f:Nat→Int):fh (tr (put v c f)) j=tr (put (fun k i=>v (skip j k) (i+1)) (if c<j then c else c-1) fun i=>f (i+1)):=by
 funext i k;unfold fh tr put;by_cases e:skip j k=c
 ·rw[if_pos e,if_pos ((job h).1 e)]
 ·rw[if_neg e,if_neg (fun h' =>e ((job h).2 h'))]
theorem zo{v:Nat→Nat→Int}{c:Nat}(f:Nat→Int):fh (tr (put v c f)) c=fh (tr v) c:=by
 funext i k;unfold fh tr;rw[ln (jxb c k)]
theorem qxx:∀n,Alt n fun v=>det n (tr v)
 |0=>⟨fun _ _ _ _ h=>absurd h (by omega),fun _ _ _ _ h=>absurd h (by omega),fun _ _ h=>absurd h (by omega)⟩
 |n+1=>by
  have ih:=qxx n;refine⟨fun v c f g hc=> ?_,fun v c a f hc=> ?_,fun v c hc hv=> ?_⟩
  ·show au _ (n+1)=au _ (n+1)+au _ (n+1);rw[←qew];refine bu fun j hj=> ?_
   by_cases e:c=j
   ·subst e;rw[zo,zo,zo];simp only[tr,nr];rw[Int.mul_add,Int.add_mul]
   ·have hc' :(if c<j then c else c-1)<n:=by split<;>omega
    rw[zp e,zp e,zp e,ih.add _ _ _ _ hc',Int.mul_add];simp only[tr,ln (Ne.symm e)]
  ·show au _ (n+1)=a*au _ (n+1);rw[←m9];refine bu fun j hj=> ?_
   by_cases e:c=j
   ·subst e;rw[zo,zo];simp only[tr,nr];rw[Int.mul_left_comm (pm c) a,Int.mul_assoc a]
   ·have hc' :(if c<j then c else c-1)<n:=by split<;>omega
    rw[zp e,zp e,ih.mul _ _ _ _ hc'];simp only[tr,ln (Ne.symm e)];rw[Int.mul_left_comm]
  ·show au _ (n+1)=0;rw[jd4 (i:=c) hc]
   ·have e0:fh (tr v) (c+1)=fh (tr v) c:=by
     funext i k;unfold fh tr;by_cases e:k=c
     ·subst e;have:skip (k+1) k=k:=by unfold skip;rw[if_pos (by omega)]
      have h2:skip k k=k+1:=by unfold skip;rw[if_neg (by omega)]
      rw[this,h2,hv]
     ·have:skip (c+1) k=skip c k:=by unfold skip;split<;>split<;>omega
      rw[this]
    rw[e0,jn0];simp only[tr,hv];rw[Int.neg_mul,Int.neg_mul];omega
   ·intro j hj h1 h2;have h0:det n (fh (tr v) j)=0:=by
     have hm:fh (tr v) j=tr (fun k i=>v (skip j k) (i+1)):=rfl;rw[hm];by_cases e:j<c
     ·refine ih.adj _ (c-1) (by omega) ?_;have e1:skip j (c-1)=c:=by unfold skip;rw[if_neg (by omega)];omega
      have e2:skip j (c-1+1)=c+1:=by unfold skip;rw[if_neg (by omega)];omega
      simp only[e1,e2,hv]
     ·refine ih.adj _ c (by omega) ?_;have e1:skip j c=c:=by unfold skip;rw[if_pos (by omega)]
      have e2:skip j (c+1)=c+1:=by unfold skip;rw[if_pos (by omega)]
      simp only[e1,e2,hv]
    rw[h0,Int.mul_zero]
theorem jj0(g:Nat→Nat→Int):∀m,au (fun j=>au (fun k=>g j k) m) (m+1)=au (fun k=>au (fun j=>g j k+g (k+1) j) (k+1)) m
 |0=>rfl
 |m+1=>by
  have ih:=jj0 g m;have e1:au (fun j=>au (fun k=>g j k) (m+1)) (m+1+1)=au (fun j=>au (fun k=>g j k) m+g j m) (m+1)+au (fun k=>g (m+1) k) (m+1):=rfl;have e2:au (fun k=>au (fun j=>g j k+g (k+1) j) (k+1)) (m+1)=au (fun k=>au (fun j=>g j k+g (k+1) j) (k+1)) m+au (fun j=>g j m+g (m+1) j) (m+1):=rfl;have e3:au (fun k=>g (m+1) k) (m+1)=au (g (m+1)) (m+1):=rfl;rw[e1,e2,qew,qew,ih];omega
theorem jqu{j k m:Nat}(h:j≤k):skip (k+1) (skip j m)=skip j (skip k m):=by
 unfold skip;by_cases h1:m<j
 ·have h2:m<k:=by omega
  have h3:m<k+1:=by omega
  simp[h1,h2,h3]
 ·by_cases h2:m<k
  ·simp[h1,h2]
  ·have h3:¬m+1<j:=by omega
   simp[h1,h2,h3]
theorem jsf(n:Nat)(A:Nat→Nat→Int)(h:A 0=A 1):det (n+2) A=0:=by
 have e:det (n+2) A=au (fun j=>au (fun k=>pm j*A 0 j*(pm k*A 0 (skip j k)*det n (fh (fh A j) k))) (n+1)) (n+2):=by
  show au _ (n+2)=_;refine bu fun j _=> ?_
  rw[m9];congr 1;show au _ (n+1)=_;refine bu fun k _=> ?_
  have:fh A j 0 k=A 0 (skip j k):=by unfold fh;rw[h]
  rw[this]
 rw[e,jj0];refine tx fun k hk=>tx fun j hj=> ?_
 have e1:skip j k=k+1:=by unfold skip;rw[if_neg (by omega)]
 have e2:skip (k+1) j=j:=by unfold skip;rw[if_pos (by omega)]
 have e3:fh (fh A (k+1)) j=fh (fh A j) k:=by
  funext i m;unfold fh;rw[jqu (by omega)]
 rw[e1,e2,e3,jn0];generalize det n (fh (fh A j) k)=d;generalize A 0 j=a;generalize A 0 (k+1)=b;generalize pm j=p;generalize pm k=q;have:p*a*(q*b*d)=q*b*(p*a*d):=by
  rw[Int.mul_left_comm (q*b),←Int.mul_assoc (p*a) (q*b) d,Int.mul_comm (p*a) (q*b),Int.mul_assoc]
 rw[this,Int.neg_mul,Int.neg_mul];omega
theorem qla{v:Nat→Nat→Int}{c j:Nat}(f:Nat→Int):fh (put v (c+1) f) j=put (fh v j) c fun k=>f (skip j k):=by
 funext i k;unfold fh put;by_cases e:i=c
 ·rw[if_pos (by omega),if_pos e]
 ·rw[if_neg (by omega),if_neg e]
theorem qg4{v:Nat→Nat→Int}{j:Nat}(f:Nat→Int):fh (put v 0 f) j=fh v j:=by
 funext i k;unfold fh;rw[ln (by omega)]
theorem q7w:∀n,Alt n fun v=>det n v
 |0=>⟨fun _ _ _ _ h=>absurd h (by omega),fun _ _ _ _ h=>absurd h (by omega),fun _ _ h=>absurd h (by omega)⟩
 |n+1=>by
  have ih:=q7w n;refine⟨fun v c f g hc=> ?_,fun v c a f hc=> ?_,fun v c hc hv=> ?_⟩
  ·show au _ (n+1)=au _ (n+1)+au _ (n+1);rw[←qew];refine bu fun j hj=> ?_
   cases c with
   |zero=>
    rw[qg4,qg4,qg4,nr,nr,nr,Int.mul_add,Int.add_mul]
   |succ c=>
    rw[qla,qla,qla,ih.add _ _ _ _ (by omega),ln (by omega),ln (by omega),ln (by omega),Int.mul_add]
  ·show au _ (n+1)=a*au _ (n+1);rw[←m9];refine bu fun j hj=> ?_
   cases c with
   |zero=>
    rw[qg4,qg4,nr,nr,Int.mul_left_comm (pm j) a,Int.mul_assoc a]
   |succ c=>
    rw[qla,qla,ih.mul _ _ _ _ (by omega),ln (by omega),ln (by omega),Int.mul_left_comm]
  ·cases c with
   |zero=>
    obtain⟨m,rfl⟩:∃m,n=m+1:=⟨n-1,by omega⟩;exact jsf m v hv
   |succ c=>
    show au _ (n+1)=0;refine tx fun j hj=> ?_
    rw[ih.adj (fh v j) c (by omega) (by funext k;unfold fh;rw[hv]),Int.mul_zero]
theorem qxy:∀(n:Nat) (A:Nat→Nat→Int),(∀k,k<n→A n k=0)→det (n+1) A=A n n*det n A
 |0,A,_=>by simp[det,au,pm]
 |n+1,A,h=>by
  have e:det (n+2) A=au (fun j=>pm j*A 0 j*det (n+1) (fh A j)) (n+1)+pm (n+1)*A 0 (n+1)*det (n+1) (fh A (n+1)):=rfl;have h0:det (n+1) (fh A (n+1))=0:=by
   rw[qxy n _ fun k hk=> ?_]
   ·have:fh A (n+1) n n=0:=by
     unfold fh;have:skip (n+1) n=n:=by unfold skip;rw[if_pos (by omega)]
     rw[this,h n (by omega)]
    rw[this,Int.zero_mul]
   ·unfold fh;have:skip (n+1) k=k:=by unfold skip;rw[if_pos (by omega)]
    rw[this,h k (by omega)]
  rw[e,h0,Int.mul_zero,Int.add_zero];show _=A (n+1) (n+1)*au _ (n+1);rw[←m9];refine bu fun j hj=> ?_
  rw[qxy n _ fun k hk=> ?_]
  ·have:fh A j n n=A (n+1) (n+1):=by
    unfold fh;have:skip j n=n+1:=by unfold skip;rw[if_neg (by omega)]
    rw[this]
   rw[this,Int.mul_left_comm]
  ·unfold fh;exact h _ (by unfold skip;split<;>omega)
end Go.M
