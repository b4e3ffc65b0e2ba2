/-
  Determinants: expansion by the last row, Cramer's rule, bounds, products. No program is named.
-/
import Derived.Test.YthakmiiaejhlbaaZ8X1
set_option linter.all false
namespace Go.M
open Go.K
section
variable {n:Nat} {F:(Nat→Nat→Int)→Int}
theorem Alt.swap' (h:Alt n F) {c d:Nat} (hc:c < n) (hd:d < n) (hne:c≠d) (v:Nat→Nat→Int) (f g:Nat→Int):F (put (put v c f) d g) = -F (put (put v c g) d f):=by
 have same:∀ f,F (put (put v c f) d f)=0:=fun f=>h.eq' hc hd hne (by rw [put_ne hne,put_at,put_at])
 have h1:=same fun k=>f k+g k
 rw [h.add _ _ _ _ hd,q7k hne,q7k hne,h.add _ _ _ _ hc,h.add _ _ _ _ hc,← q7k hne,← q7k hne,← q7k hne,← q7k hne,same f,same g] at h1
 omega
end
def eu (s:Nat):Nat→Int:=fun k=>if k=s then 1 else 0
theorem eu_at (s:Nat):eu s s=1:=if_pos rfl
theorem eu_ne {s k:Nat} (h:k≠s):eu s k=0:=if_neg h
theorem eu_sum (w:Nat→Int) {n j:Nat} (h:j < n):sumN (fun s=>w s*eu s j) n=w j:=by
 rw [qc9 (i:=j) h fun k _ hne=>by rw [eu_ne (Ne.symm hne),Int.mul_zero],eu_at,Int.mul_one]
def cput (B:Nat→Nat→Int) (s:Nat) (f:Nat→Int):Nat→Nat→Int:=fun i j=>if j=s then f i else B i j
theorem q14g (k:Nat) (B:Nat→Nat→Int):det (k+1) B=B k k*det k B - sumN (fun s=>B k s*det k (cput B s fun i=>B i k)) k:=by
 have e1:det (k+1) B=det (k+1) (put B k fun j=>sumN (fun s=>B k s*eu s j) (k+1)):=by
   refine qb5 _ fun i j hi hj=>?_
   unfold put
   split
   · rename_i e
     show B i j=sumN (fun s=>B k s*eu s j) (k+1)
     rw [eu_sum (B k) hj,e]
   · rfl
 have e2:det (k+1) (put B k (eu k))=det k B:=by
   rw [qp6]
   · rw [put_at,eu_at,Int.one_mul]
     exact qb5 _ fun i j hi _=>by rw [put_ne (by omega)]
   · intro j hj
     rw [put_at,eu_ne (by omega)]
 have e3:∀ s,s < k→det (k+1) (put B k (eu s)) = -det k (cput B s fun i=>B i k):=fun s hs=>by
   have h:=(qpu (k+1)).swap' (c:=s) (d:=k) (by omega) (by omega) (by omega) (tr (put B k (eu s))) (tr (put B k (eu s)) s) (tr (put B k (eu s)) k)
   rw [ql4,ql4] at h
   have h0:tr (tr (put B k (eu s)))=put B k (eu s):=rfl
   simp only [h0] at h
   rw [h,qp6]
   · have:tr (put (put (tr (put B k (eu s))) s (tr (put B k (eu s)) k)) k (tr (put B k (eu s)) s)) k k=1:=by
       unfold tr
       rw [put_at,put_at,eu_at]
     rw [this,Int.one_mul]
     congr 1
     refine qb5 _ fun i j hi hj=>?_
     unfold tr cput
     rw [put_ne (by omega)]
     by_cases e:j=s
     · subst e
       rw [put_at,put_ne (by omega),if_pos rfl]
     · rw [put_ne e,put_ne (by omega),if_neg e]
   · intro j hj
     unfold tr
     rw [put_ne (by omega)]
     by_cases e:j=s
     · subst e
       rw [put_at,put_at,eu_ne (by omega)]
     · rw [put_ne e,put_at,eu_ne e]
 have e0:∀ f:Nat→Int,sumN (fun s=>B k s*f s) (k+1)=sumN (fun s=>B k s*f s) k+B k k*f k:=fun _=>rfl
 rw [e1,(qu0 (k+1)).sum (by omega) B (B k) (fun s=>eu s),e0,e2]
 have e4:sumN (fun s=>B k s*det (k+1) (put B k (eu s))) k=sumN (fun s=>(-1)*(B k s*det k (cput B s fun i=>B i k))) k:=qs fun s hs=>by
   rw [e3 s hs]
   rw [Int.mul_neg,Int.neg_mul,Int.one_mul]
 rw [e4,q3w]
 omega
def bord (k:Nat) (B:Nat→Nat→Int) (f:Nat→Int) (w:Nat→Int) (x:Int):Nat→Nat→Int:=fun i j=>if i=k then (if j=k then x else w j) else (if j=k then f i else B i j)
theorem q129 (k:Nat) (B:Nat→Nat→Int) (f w:Nat→Int) (x:Int):det (k+1) (bord k B f w x)=x*det k B - sumN (fun s=>w s*det k (cput B s f)) k:=by
 rw [q14g]
 have h0:bord k B f w x k k=x:=by simp [bord]
 have h1:det k (bord k B f w x)=det k B:=qb5 _ fun i j hi hj=>by
   unfold bord
   rw [if_neg (by omega),if_neg (by omega)]
 rw [h0,h1]
 congr 1
 refine qs fun s hs=>?_
 have h2:bord k B f w x k s=w s:=by
   unfold bord
   rw [if_pos rfl,if_neg (by omega)]
 rw [h2]
 congr 1
 refine qb5 _ fun i j hi hj=>?_
 simp only [cput,bord,if_true]
 repeat' split
 all_goals first | rfl | omega
theorem q13z {k:Nat} {B:Nat→Nat→Int} (hB:det k B≠0) {x:Nat→Int} (h:∀ u,u < k→sumN (fun s=>x s*B u s) k=0):∀ s,s < k→x s=0:=by
 intro s hs
 have hA:=qpu k
 have h1:=hA.sum hs (tr B) x (tr B) k
 have h2:det k (tr (put (tr B) s fun i=>sumN (fun u=>x u*tr B u i) k))=0:=by
   rw [← hA.zero hs (tr B)]
   refine qb5 _ fun i j hi hj=>?_
   unfold tr put
   split
   · exact h i hi
   · rfl
 have h3:sumN (fun u=>x u*det k (tr (put (tr B) s (tr B u)))) k=x s*det k B:=by
   rw [qc9 (i:=s) hs fun u hu hne=>?_]
   · rw [ql4]; rfl
   · rw [hA.eq' (c:=s) (d:=u) hs hu (Ne.symm hne) (by rw [put_at,put_ne hne]),Int.mul_zero]
 rw [h2,h3] at h1
 exact (Int.mul_eq_zero.1 h1.symm).resolve_right hB
theorem qum {f:Nat→Int}:∀ {n:Nat},(∀ k,k < n→0≤f k)→0≤sumN f n
 | 0, _ => Int.le_refl _
 | n + 1, h => by
   have:=qum (n:=n) fun k hk=>h k (by omega)
   have:=h n (by omega)
   show 0≤sumN f n+f n
   omega
theorem qtm {f:Nat→Int} {a:Nat}:∀ {n:Nat},a < n→sumN (fun j=>if j=a then 0 else f j) n+f a=sumN f n
 | 0, h => by omega
 | n + 1, h => by
   show sumN (fun j=>if j=a then 0 else f j) n+(if n=a then 0 else f n)+f a=sumN f n+f n
   by_cases e:n=a
   · subst e
     rw [if_pos rfl,qs (g:=f) fun k hk=>if_neg (by omega)]
     omega
   · rw [if_neg e]
     have:=qtm (f:=f) (a:=a) (n:=n) (by omega)
     omega
def Inj (q:Nat→Nat) (k C:Nat):Prop:=(∀ b,b < k→q b < C)∧∀ a b,a < k→b < k→q a=q b→a=b
theorem Inj.pre {q:Nat→Nat} {k C:Nat} (h:Inj q (k+1) C):Inj q k C:=⟨fun b hb=>h.1 b (by omega),fun a b ha hb=>h.2 a b (by omega) (by omega)⟩
theorem q11q {q:Nat→Nat} {C:Nat}:∀ {k:Nat} {f:Nat→Int},Inj q k C→(∀ j,j < C→0≤f j)→sumN (fun b=>f (q b)) k≤sumN f C
 | 0, f, _, h0 => qum h0
 | k + 1, f, h, h0 => by
   have h1:=q11q (k:=k) (f:=fun j=>if j=q k then 0 else f j) h.pre fun j hj=>by
     show 0≤if j=q k then 0 else f j
     split
     · exact Int.le_refl _
     · exact h0 j hj
   have h2:=qtm (f:=f) (h.1 k (by omega))
   have h3:sumN (fun b=>if q b=q k then 0 else f (q b)) k=sumN (fun b=>f (q b)) k:=qs fun b hb=>if_neg fun e=>by
     have:=h.2 b k (by omega) (by omega) e
     omega
   show sumN (fun b=>f (q b)) k+f (q k)≤sumN f C
   omega
def insr (j:Nat) (f:Nat→Int):Nat→Int:=fun c=>if c=j then 0 else f (if c < j then c else c - 1)
def ins (n j:Nat) (w:Nat→Nat→Int):Nat→Nat→Int:=fun i=>if i < n then insr j (w i) else eu j
end Go.M
