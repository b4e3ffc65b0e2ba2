/-
  Determinants of integers, by the first row: linear, alternating, bounded. No program is named.
-/
import Derived.Test.YtclbndfjhjladaaGreatZ5KE
set_option linter.all false
namespace Go.M
open Go.K
def pm(n:Nat):Int:=if n % 2=0 then 1 else-1
theorem jki(n:Nat):pm (n+1)= -pm n:=by
 unfold pm;rcases Nat.mod_two_eq_zero_or_one n with h|h
 ·have h' :¬(n+1) % 2=0:=by omega
  rw[if_pos h,if_neg h']
 ·have h' :(n+1) % 2=0:=by omega
  have h2:¬n % 2=0:=by omega
  rw[if_pos h',if_neg h2];rfl
def skip(j k:Nat):Nat:=if k<j then k else k+1
def d8(A:Nat→Nat→Int)(j:Nat):Nat→Nat→Int:=fun i k=>A (i+1) (skip j k)
def tq:Nat→(Nat→Nat→Int)→Int
 |0,_=>1
 |n+1,A=>af (fun j=>pm j*A 0 j*tq n (d8 A j)) (n+1)
theorem qw9{j k n:Nat}(h:k<n):skip j k<n+1:=by unfold skip;split<;>omega
theorem jdd(j k:Nat):skip j k≠j:=by unfold skip;split<;>omega
theorem fy:∀(n:Nat) {A B:Nat→Nat→Int},(∀i j,i<n→j<n→A i j=B i j)→tq n A=tq n B
 |0,_,_,_=>rfl
 |n+1,A,B,h=>by
  unfold tq;refine aj fun j hj=> ?_
  rw[h 0 j (by omega) hj,fy n (A:=d8 A j) (B:=d8 B j) fun i k hi hk=>h (i+1) (skip j k) (by omega) (qw9 hk)]
def put(v:Nat→Nat→Int)(c:Nat)(f:Nat→Int):Nat→Nat→Int:=fun i=>if i=c then f else v i
theorem qgm(v:Nat→Nat→Int)(c:Nat):put v c (v c)=v:=by
 funext i;unfold put;split
 ·rename_i h;rw[h]
 ·rfl
theorem mf(v:Nat→Nat→Int)(c:Nat)(f:Nat→Int):put v c f c=f:=if_pos rfl
theorem lm{v:Nat→Nat→Int}{c i:Nat}{f:Nat→Int}(h:i≠c):put v c f i=v i:=if_neg h
theorem rf{v:Nat→Nat→Int}{c d:Nat}(h:c≠d)(f g:Nat→Int):put (put v c f) d g=put (put v d g) c f:=by
 funext i;unfold put;by_cases h1:i=c
 ·have h2:¬i=d:=fun e=>h (h1.symm.trans e)
  simp[h1,h2,h]
 ·by_cases h2:i=d
  ·simp[h2,Ne.symm h]
  ·simp[h1,h2]
structure Alt (n : Nat) (F : (Nat → Nat → Int) → Int) : Prop where
 add : ∀ v c f g, c < n → F (put v c fun k => f k + g k) = F (put v c f) + F (put v c g)
 mul : ∀ v c a f, c < n → F (put v c fun k => a * f k) = a * F (put v c f)
 adj : ∀ v c, c + 1 < n → v c = v (c + 1) → F v = 0
section
variable {n : Nat} {F : (Nat → Nat → Int) → Int}
theorem Alt.swap(h:Alt n F){c:Nat}(hc:c+1<n)(v:Nat→Nat→Int)(f g:Nat→Int):F (put (put v c f) (c+1) g)= -F (put (put v c g) (c+1) f):=by
 have hne:c≠c+1:=by omega
 have same:∀f,F (put (put v c f) (c+1) f)=0:=fun f=>h.adj _ c hc (by rw[lm hne,mf,mf])
 have h1:=same fun k=>f k+g k
 rw[h.add _ _ _ _ hc,rf hne,rf hne,h.add _ _ _ _ (by omega),h.add _ _ _ _ (by omega),←rf hne,←rf hne,←rf hne,←rf hne,same f,same g]at h1;omega
theorem Alt.eq(h:Alt n F):∀(k c:Nat),c+1+k<n→∀v:Nat→Nat→Int,v c=v (c+1+k)→F v=0
 |0,c,hc,v,hv=>h.adj v c hc hv
 |k+1,c,hc,v,hv=>by
  have hc' :c+1+k+1<n:=by omega
  have e1:put (put v (c+1+k) (v (c+1+k))) (c+1+k+1) (v (c+1+k+1))=v:=by rw[qgm,qgm]
  have h1:=h.swap hc' v (v (c+1+k)) (v (c+1+k+1));rw[e1]at h1;rw[h1,Alt.eq h k c (by omega) _ ?_]
  ·rfl
  ·rw[lm (by omega),lm (by omega),lm (by omega),mf];exact hv
theorem Alt.eq'(h:Alt n F){c d:Nat}(hc:c<n)(hd:d<n)(hne:c≠d){v:Nat→Nat→Int}(hv:v c=v d):F v=0:=by
 rcases Nat.lt_or_gt_of_ne hne with hlt|hlt
 ·exact h.eq (d-c-1) c (by omega) v (by rw[show c+1+(d-c-1)=d by omega];exact hv)
 ·exact h.eq (c-d-1) d (by omega) v (by rw[show d+1+(c-d-1)=c by omega];exact hv.symm)
theorem Alt.zero(h:Alt n F){c:Nat}(hc:c<n)(v:Nat→Nat→Int):F (put v c fun _=>0)=0:=by
 have:=h.mul v c 0 (fun _=>0) hc;simp only[Int.zero_mul]at this;exact this
theorem Alt.sum(h:Alt n F){c:Nat}(hc:c<n)(v:Nat→Nat→Int)(a:Nat→Int)(f:Nat→Nat→Int):∀m,F (put v c fun k=>af (fun u=>a u*f u k) m)=af (fun u=>a u*F (put v c (f u))) m
 |0=>h.zero hc v
 |m+1=>by
  simp only[af];rw[h.add v c _ _ hc,Alt.sum h hc v a f m,h.mul v c _ _ hc]
end
theorem jal{f:Nat→Int}{i:Nat}:∀{n:Nat},i+1<n→(∀k,k<n→k≠i→k≠i+1→f k=0)→af f n=f i+f (i+1)
 |0,h,_=>by omega
 |n+1,h,h0=>by
  have e:af f (n+1)=af f n+f n:=rfl;rw[e];by_cases e:n=i+1
  ·subst e;rw[fc (i:=i) (by omega) fun k hk hne=>h0 k (by omega) hne (by omega)]
  ·rw[jal (i:=i) (by omega) fun k hk h1 h2=>h0 k (by omega) h1 h2,h0 n (by omega) (by omega) e];omega
theorem jkx{j k c:Nat}(h:c≠j):skip j k=c↔k=(if c<j then c else c-1):=by
 unfold skip;split<;>split<;>omega
def tr(A:Nat→Nat→Int):Nat→Nat→Int:=fun i j=>A j i
theorem zp{v:Nat→Nat→Int}{c j:Nat}(h:c≠j)(f:Nat→Int):d8 (tr (put v c f)) j=tr (put (fun k i=>v (skip j k) (i+1)) (if c<j then c else c-1) fun i=>f (i+1)):=by
 funext i k;unfold d8 tr put;by_cases e:skip j k=c
 ·rw[if_pos e,if_pos ((jkx h).1 e)]
 ·rw[if_neg e,if_neg (fun h' =>e ((jkx h).2 h'))]
theorem zo{v:Nat→Nat→Int}{c:Nat}(f:Nat→Int):d8 (tr (put v c f)) c=d8 (tr v) c:=by
 funext i k;unfold d8 tr;rw[lm (jdd c k)]
theorem qi8:∀n,Alt n fun v=>tq n (tr v)
 |0=>⟨fun _ _ _ _ h=>absurd h (by omega),fun _ _ _ _ h=>absurd h (by omega),fun _ _ h=>absurd h (by omega)⟩
 |n+1=>by
  have ih:=qi8 n;refine⟨fun v c f g hc=> ?_,fun v c a f hc=> ?_,fun v c hc hv=> ?_⟩
  ·show af _ (n+1)=af _ (n+1)+af _ (n+1);rw[←sn];refine aj fun j hj=> ?_
   by_cases e:c=j
   ·subst e;rw[zo,zo,zo];simp only[tr,mf];rw[Int.mul_add,Int.add_mul]
   ·have hc' :(if c<j then c else c-1)<n:=by split<;>omega
    rw[zp e,zp e,zp e,ih.add _ _ _ _ hc',Int.mul_add];simp only[tr,lm (Ne.symm e)]
  ·show af _ (n+1)=a*af _ (n+1);rw[←bm];refine aj fun j hj=> ?_
   by_cases e:c=j
   ·subst e;rw[zo,zo];simp only[tr,mf];rw[Int.mul_left_comm (pm c) a,Int.mul_assoc a]
   ·have hc' :(if c<j then c else c-1)<n:=by split<;>omega
    rw[zp e,zp e,ih.mul _ _ _ _ hc'];simp only[tr,lm (Ne.symm e)];rw[Int.mul_left_comm]
  ·show af _ (n+1)=0;rw[jal (i:=c) hc]
   ·have e0:d8 (tr v) (c+1)=d8 (tr v) c:=by
     funext i k;unfold d8 tr;by_cases e:k=c
     ·subst e;have:skip (k+1) k=k:=by unfold skip;rw[if_pos (by omega)]
      have h2:skip k k=k+1:=by unfold skip;rw[if_neg (by omega)]
      rw[this,h2,hv]
     ·have:skip (c+1) k=skip c k:=by unfold skip;split<;>split<;>omega
      rw[this]
    rw[e0,jki];simp only[tr,hv];rw[Int.neg_mul,Int.neg_mul];omega
   ·intro j hj h1 h2;have h0:tq n (d8 (tr v) j)=0:=by
     have hm:d8 (tr v) j=tr (fun k i=>v (skip j k) (i+1)):=rfl;rw[hm];by_cases e:j<c
     ·refine ih.adj _ (c-1) (by omega) ?_;have e1:skip j (c-1)=c:=by unfold skip;rw[if_neg (by omega)];omega
      have e2:skip j (c-1+1)=c+1:=by unfold skip;rw[if_neg (by omega)];omega
      simp only[e1,e2,hv]
     ·refine ih.adj _ c (by omega) ?_;have e1:skip j c=c:=by unfold skip;rw[if_pos (by omega)]
      have e2:skip j (c+1)=c+1:=by unfold skip;rw[if_pos (by omega)]
      simp only[e1,e2,hv]
    rw[h0,Int.mul_zero]
theorem jgd(g:Nat→Nat→Int):∀m,af (fun j=>af (fun k=>g j k) m) (m+1)=af (fun k=>af (fun j=>g j k+g (k+1) j) (k+1)) m
 |0=>rfl
 |m+1=>by
  have ih:=jgd g m;have e1:af (fun j=>af (fun k=>g j k) (m+1)) (m+1+1)=af (fun j=>af (fun k=>g j k) m+g j m) (m+1)+af (fun k=>g (m+1) k) (m+1):=rfl;have e2:af (fun k=>af (fun j=>g j k+g (k+1) j) (k+1)) (m+1)=af (fun k=>af (fun j=>g j k+g (k+1) j) (k+1)) m+af (fun j=>g j m+g (m+1) j) (m+1):=rfl;have e3:af (fun k=>g (m+1) k) (m+1)=af (g (m+1)) (m+1):=rfl;rw[e1,e2,sn,sn,ih];omega
theorem jnh{j k m:Nat}(h:j≤k):skip (k+1) (skip j m)=skip j (skip k m):=by
 unfold skip;by_cases h1:m<j
 ·have h2:m<k:=by omega
  have h3:m<k+1:=by omega
  simp[h1,h2,h3]
 ·by_cases h2:m<k
  ·simp[h1,h2]
  ·have h3:¬m+1<j:=by omega
   simp[h1,h2,h3]
theorem jo5(n:Nat)(A:Nat→Nat→Int)(h:A 0=A 1):tq (n+2) A=0:=by
 have e:tq (n+2) A=af (fun j=>af (fun k=>pm j*A 0 j*(pm k*A 0 (skip j k)*tq n (d8 (d8 A j) k))) (n+1)) (n+2):=by
  show af _ (n+2)=_;refine aj fun j _=> ?_
  rw[bm];congr 1;show af _ (n+1)=_;refine aj fun k _=> ?_
  have:d8 A j 0 k=A 0 (skip j k):=by unfold d8;rw[h]
  rw[this]
 rw[e,jgd];refine bw fun k hk=>bw fun j hj=> ?_
 have e1:skip j k=k+1:=by unfold skip;rw[if_neg (by omega)]
 have e2:skip (k+1) j=j:=by unfold skip;rw[if_pos (by omega)]
 have e3:d8 (d8 A (k+1)) j=d8 (d8 A j) k:=by
  funext i m;unfold d8;rw[jnh (by omega)]
 rw[e1,e2,e3,jki];generalize tq n (d8 (d8 A j) k)=d;generalize A 0 j=a;generalize A 0 (k+1)=b;generalize pm j=p;generalize pm k=q;have:p*a*(q*b*d)=q*b*(p*a*d):=by
  rw[Int.mul_left_comm (q*b),←Int.mul_assoc (p*a) (q*b) d,Int.mul_comm (p*a) (q*b),Int.mul_assoc]
 rw[this,Int.neg_mul,Int.neg_mul];omega
theorem qj2{v:Nat→Nat→Int}{c j:Nat}(f:Nat→Int):d8 (put v (c+1) f) j=put (d8 v j) c fun k=>f (skip j k):=by
 funext i k;unfold d8 put;by_cases e:i=c
 ·rw[if_pos (by omega),if_pos e]
 ·rw[if_neg (by omega),if_neg e]
theorem qgk{v:Nat→Nat→Int}{j:Nat}(f:Nat→Int):d8 (put v 0 f) j=d8 v j:=by
 funext i k;unfold d8;rw[lm (by omega)]
theorem qo2:∀n,Alt n fun v=>tq n v
 |0=>⟨fun _ _ _ _ h=>absurd h (by omega),fun _ _ _ _ h=>absurd h (by omega),fun _ _ h=>absurd h (by omega)⟩
 |n+1=>by
  have ih:=qo2 n;refine⟨fun v c f g hc=> ?_,fun v c a f hc=> ?_,fun v c hc hv=> ?_⟩
  ·show af _ (n+1)=af _ (n+1)+af _ (n+1);rw[←sn];refine aj fun j hj=> ?_
   cases c with
   |zero=>
    rw[qgk,qgk,qgk,mf,mf,mf,Int.mul_add,Int.add_mul]
   |succ c=>
    rw[qj2,qj2,qj2,ih.add _ _ _ _ (by omega),lm (by omega),lm (by omega),lm (by omega),Int.mul_add]
  ·show af _ (n+1)=a*af _ (n+1);rw[←bm];refine aj fun j hj=> ?_
   cases c with
   |zero=>
    rw[qgk,qgk,mf,mf,Int.mul_left_comm (pm j) a,Int.mul_assoc a]
   |succ c=>
    rw[qj2,qj2,ih.mul _ _ _ _ (by omega),lm (by omega),lm (by omega),Int.mul_left_comm]
  ·cases c with
   |zero=>
    obtain⟨m,rfl⟩:∃m,n=m+1:=⟨n-1,by omega⟩;exact jo5 m v hv
   |succ c=>
    show af _ (n+1)=0;refine bw fun j hj=> ?_
    rw[ih.adj (d8 v j) c (by omega) (by funext k;unfold d8;rw[hv]),Int.mul_zero]
theorem quh:∀(n:Nat) (A:Nat→Nat→Int),(∀k,k<n→A n k=0)→tq (n+1) A=A n n*tq n A
 |0,A,_=>by simp[tq,af,pm]
 |n+1,A,h=>by
  have e:tq (n+2) A=af (fun j=>pm j*A 0 j*tq (n+1) (d8 A j)) (n+1)+pm (n+1)*A 0 (n+1)*tq (n+1) (d8 A (n+1)):=rfl;have h0:tq (n+1) (d8 A (n+1))=0:=by
   rw[quh n _ fun k hk=> ?_]
   ·have:d8 A (n+1) n n=0:=by
     unfold d8;have:skip (n+1) n=n:=by unfold skip;rw[if_pos (by omega)]
     rw[this,h n (by omega)]
    rw[this,Int.zero_mul]
   ·unfold d8;have:skip (n+1) k=k:=by unfold skip;rw[if_pos (by omega)]
    rw[this,h k (by omega)]
  rw[e,h0,Int.mul_zero,Int.add_zero];show _=A (n+1) (n+1)*af _ (n+1);rw[←bm];refine aj fun j hj=> ?_
  rw[quh n _ fun k hk=> ?_]
  ·have:d8 A j n n=A (n+1) (n+1):=by
    unfold d8;have:skip j n=n+1:=by unfold skip;rw[if_neg (by omega)]
    rw[this]
   rw[this,Int.mul_left_comm]
  ·unfold d8;exact h _ (by unfold skip;split<;>omega)
end Go.M
