/-
  Matrices: elimination without fractions, by the reference.
-/
import Derived.Test.YtclbndfjhjladaaGreatZ4Q2
set_option linter.all false
namespace Go.Proofs.YtclbndfjhjladaaGreat
open Go.K Go.M
section
variable {R C : Nat}
theorem jym(hC:C≤50){M A:Nat→Nat→Int}{top i:Nat}(ht:top<R)(hi:i<R)(hne:i≠top){den:Int}(hd:den≠0)(p q a c e d1 d2:Int)(x:List (List Int))(y z:List Int):
  qsl (T2 R C M) a c (top:Int) p (i:Int) q x y d1 d2 den e z (0,T2 R C A)=some (.inl (T2 R C (fun a b=>if a=i then el p q den (A i b) (A top b)else A a b))):=by
 have h0:0<R:=by omega
 refine a9 (fun j:Nat=>((j:Int),T2 R C (fun a b=>if a=i∧b<j then el p q den (A i b) (A top b)else A a b))) C (aw (by omega)) _ ?_ ?_ _ ?_
 ·intro j hj;have e1:(if top=i∧j<j then el p q den (A i j) (A top j)else A top j)=A top j:=if_neg (by omega);have e2:(if i=i∧j<j then el p q den (A i j) (A top j)else A i j)=A i j:=if_neg (by omega);simp(disch:=omega)only[wv,c9,ji h0,ji hi,ji ht,bn,di hj,e1,e2,ml,jg,qq6,rs];refine congrArg some (congrArg LR.next (Prod.ext rfl (bp fun a ha=> ?_)));by_cases h1:a=i
  ·subst h1;rw[if_pos rfl];refine bp fun b hb=> ?_
   by_cases h2:b=j
   ·subst h2;simp[el]
   ·by_cases h3:b<j
    ·have:b<j+1:=by omega
     simp[h2,h3,this]
    ·have:¬b<j+1:=by omega
     simp[h2,h3,this]
  ·rw[if_neg h1];exact bp fun b hb=>by simp[h1]
 ·simp(disch:=omega)only[wv,c9,ji h0,bn,rs];refine congrArg some (congrArg LR.done (qgx fun a b ha hb=> ?_));by_cases h1:a=i<;>simp[h1,hb]
 ·simp
theorem jyn(hR:R≤50)(hC:C≤50){M A:Nat→Nat→Int}{top c:Nat}(ht:top<R)(hc:c<C){den:Int}(hd:den≠0)(a e d1 d2:Int)(x:List (List Int))(y z:List Int):
  qsm (T2 R C M) a (c:Int) (top:Int) (A top c) x y d1 d2 den e z (0,T2 R C A)=some (.inl (T2 R C (clr top c A den))):=by
 refine a9 (fun i:Nat=>((i:Int),T2 R C (fun a b=>if a<i then clr top c A den a b else A a b))) R (aw (by omega)) _ ?_ ?_ _ ?_
 ·intro i hi;have hfin:∀B:Nat→Nat→Int,(∀b,b<C→B i b=clr top c A den i b)→(∀a b,a<R→b<C→a≠i→B a b=if a<i then clr top c A den a b else A a b)→T2 R C B=T2 R C (fun a b=>if a<i+1 then clr top c A den a b else A a b):=fun B h1 h2=>qgx fun a b ha hb=>by
   by_cases e:a=i
   ·subst e;rw[if_pos (by omega),h1 b hb]
   ·rw[h2 a b ha hb e];by_cases h:a<i
    ·rw[if_pos h,if_pos (by omega)]
    ·rw[if_neg h,if_neg (by omega)]
  by_cases hne:i=top
  ·subst hne;simp(disch:=omega)only[qv,c9,jg,rs];refine congrArg some (congrArg LR.next (Prod.ext rfl (hfin _ (fun b hb=> ?_) fun a b ha hb he=>rfl)));rw[if_neg (by omega)];simp[clr]
  ·have hii:∀b,(if i<i then clr top c A den i b else A i b)=A i b:=fun b=>if_neg (by omega)
   have hL2:=jym (R:=R) hC (M:=M) (A:=fun a b=>if a<i then clr top c A den a b else A a b) ht hi hne hd (A top c) (A i c) a (c:Int) e d1 d2 x y z;have hine:(i:Int)≠(top:Int):=by omega
   simp(disch:=omega)only[qv,c9,ji hi,bn,di hc,hii,hL2,jg,rs];refine congrArg some (congrArg LR.next (Prod.ext rfl (hfin _ (fun b hb=> ?_) fun a b ha hb he=> ?_)))
   ·have h1:(if top<i then clr top c A den top b else A top b)=A top b:=by
     split
     ·simp[clr]
     ·rfl
    simp only[if_true,hii,h1];simp[clr,hne]
   ·simp only[if_neg he]
 ·simp(disch:=omega)only[qv,c9,rs];refine congrArg some (congrArg LR.done (qgx fun a b ha hb=> ?_));simp[ha]
 ·simp
theorem jop(hR:R≤50)(hC:C≤50){M A:Nat→Nat→Int}{top c:Nat}(ht:top<R)(hc:c<C){den:Int}(hd:den≠0)(a e d1 d2:Int)(x:List (List Int))(y z:List Int)(hz:z.length≤50):
  qae (T2 R C M) a (c:Int) (top:Int) x y d1 d2 den e (T2 R C A) z=some (.inl (A top c,T2 R C (clr top c A den),z++[(c:Int)])):=by
 have h:=jyn hR hC (M:=M) (A:=A) ht hc hd a e d1 d2 x y z;unfold qae qe8;simp(disch:=omega)only[c9,ji ht,bn,di hc,h,rs]
theorem jyo(hR:R≤50){M A:Nat→Nat→Int}{c:Nat}(hc:c<C){k:Nat}(hk:k≤R)(a b d e:Int)(x:List (List Int))(y:List Int)(f g:Int)(z:List Int):
  qsk (T2 R C M) a (c:Int) b x y d e f g (T2 R C A) z (k:Int)=some (.inl ((nz A c (R-k) k:Nat):Int)):=by
 obtain⟨h1,h2,h3,h4⟩:=quh A c (R-k) k;refine a9 (fun i:Nat=>((k+i:Nat):Int)) (nz A c (R-k) k-k) (aw (by omega)) _ ?_ ?_ _ rfl
 ·intro i hi;have h0:=h4 (k+i) (by omega) (by omega);have hkR:k+i<R:=by omega
  simp(disch:=omega)only[qu,c9,ji hkR,bn,di hc,h0,jg,decide_true,rs];rw[Nat.add_assoc]
 ·have e0:k+(nz A c (R-k) k-k)=nz A c (R-k) k:=by omega
  rw[e0];by_cases hlt:nz A c (R-k) k<R
  ·have hne:=h3 (by omega);simp(disch:=omega)only[qu,c9,ji hlt,bn,di hc,rs]
  ·simp(disch:=omega)only[qu,c9,rs]
def sgn(n:Nat):Int:=if n % 2=0 then 1 else-1
theorem jy0(n:Nat):w64 (0-sgn n)=sgn (n+1):=by
 unfold sgn;rcases Nat.mod_two_eq_zero_or_one n with h|h
 ·have:(n+1) % 2=1:=by omega
  rw[h,this];decide
 ·have:(n+1) % 2=0:=by omega
  rw[h,this];decide
def qx8(R C:Nat)(M:Nat→Nat→Int)(cols:Nat)(a:Int×Int×Int×List (List Int)×List Int):Option (LR (Int×Int×Int×List (List Int)×List Int) (Int×Int×List (List Int)×List Int) az):=
 i6 (T2 R C M) (cols:Int) [] [] 0 0 a.1 a.2.1 a.2.2.1 a.2.2.2.1 a.2.2.2.2 (fun a' =>some (.next a')) (fun e=>some (.done e)) (fun r=>some (.ret r))
theorem jvc(hR:R≤50)(hC:C≤50){cols:Nat}(hcols:cols≤C){M A:Nat→Nat→Int}{c:Nat}(hc:c<cols):
  qx8 R C M cols ((c:Int),(cp R A c).den,sgn (cp R A c).sw,T2 R C (cp R A c).A,jy (cp R A c).piv)=some (.next (((c+1:Nat):Int),(cp R A (c+1)).den,sgn (cp R A (c+1)).sw,T2 R C (cp R A (c+1)).A,jy (cp R A (c+1)).piv)):=by
 have hI:=q0m R A c;show _=some (LR.next (((c+1:Nat):Int),(qh9 R c (cp R A c)).den,sgn (qh9 R c (cp R A c)).sw,T2 R C (qh9 R c (cp R A c)).A,jy (qh9 R c (cp R A c)).piv));generalize cp R A c=s at hI;obtain⟨h1,h2,h3,h4⟩:=quh s.A c (R-s.piv.length) s.piv.length;have hcC:c<C:=by omega
 have hcl:=q20 s.piv;have hpR:=hI.piv;have hsw:=hI.swl;have hL1:=jyo hR (M:=M) (A:=s.A) hcC (k:=s.piv.length) hpR (cols:Int) (s.piv.length:Int) 0 0 [] [] s.den (sgn s.sw) (jy s.piv);unfold qh9;by_cases e1:nz s.A c (R-s.piv.length) s.piv.length=R
 ·rw[if_pos e1];rw[e1]at hL1;simp(disch:=omega)only[qx8,i6,hcl,c9,hL1,jg,decide_true,rs]
 ·rw[if_neg e1];have hk:nz s.A c (R-s.piv.length) s.piv.length<R:=by omega
  have hp:s.piv.length<R:=by omega
  by_cases e2:nz s.A c (R-s.piv.length) s.piv.length=s.piv.length
  ·rw[if_pos e2];have e2' :((nz s.A c (R-s.piv.length) s.piv.length:Nat):Int)=(s.piv.length:Int):=by omega
   have hcz:=jop hR hC (M:=M) (A:=s.A) hp hcC hI.den (cols:Int) (sgn s.sw) 0 0 [] [] (jy s.piv) (by omega);simp(disch:=omega)only[qx8,i6,hcl,c9,hL1,hcz,jg,rs];simp[jy]
  ·rw[if_neg e2];have e2' :((nz s.A c (R-s.piv.length) s.piv.length:Nat):Int)≠(s.piv.length:Int):=by omega
   have hcz:=jop hR hC (M:=M) (A:=swp s.A (nz s.A c (R-s.piv.length) s.piv.length) s.piv.length) hp hcC hI.den (cols:Int) (sgn (s.sw+1)) 0 0 [] [] (jy s.piv) (by omega);have hsp:=jtl (C:=C) (A:=s.A) hk hp;have hval:swp s.A (nz s.A c (R-s.piv.length) s.piv.length) s.piv.length s.piv.length c=s.A (nz s.A c (R-s.piv.length) s.piv.length) c:=by simp[swp]
   rw[hval]at hcz;have hsg:=jy0 s.sw;simp(disch:=omega)only[qx8,i6,hcl,c9,hL1,hsp,hsg,hcz,jg,decide_true,ls,rs];simp[jy]
theorem jvb(hR:R≤50)(hC:C≤50){cols:Nat}(hcols:cols≤C){M A:Nat→Nat→Int}:∀(n c:Nat),n+c=cols→∀m,n<m→
  q3n (qx8 R C M cols) m ((c:Int),(cp R A c).den,sgn (cp R A c).sw,T2 R C (cp R A c).A,jy (cp R A c).piv)=some (.inl ((cp R A cols).den,sgn (cp R A cols).sw,T2 R C (cp R A cols).A,jy (cp R A cols).piv)):=by
 intro n
 induction n with
 |zero=>
  intro c hc m hm;obtain⟨m,rfl⟩:∃q,m=q+1:=⟨m-1,by omega⟩;obtain rfl:c=cols:=by omega
  have hs:qx8 R C M c ((c:Int),(cp R A c).den,sgn (cp R A c).sw,T2 R C (cp R A c).A,jy (cp R A c).piv)=some (.done ((cp R A c).den,sgn (cp R A c).sw,T2 R C (cp R A c).A,jy (cp R A c).piv)):=by
   simp(disch:=omega)only[qx8,i6,rs]
  rw[nq,hs];rfl
 |succ n ih=>
  intro c hc m hm;obtain⟨m,rfl⟩:∃q,m=q+1:=⟨m-1,by omega⟩;rw[nq,jvc hR hC hcols (by omega),au];exact ih (c+1) (by omega) m (by omega)
theorem j1n(hR:R≤50)(hC:C≤50){A:Nat→Nat→Int}(a:Int):qsj (T2 R C A) a [] [] 0 0 1 1 [] (0,[])=some (.inl (T2 R C A)):=by
 refine a9 (fun i:Nat=>((i:Int),T2 i C A)) R (aw (by omega)) _ ?_ ?_ _ rfl
 ·intro i hi;simp(disch:=omega)only[wu,c9,ji hi,bn,jg,List.nil_append,rs];rw[T2,←mm]
 ·simp(disch:=omega)only[wu,c9,rs]
theorem jlg(hR:R≤50)(hC:C≤50){cols:Nat}(hcols:cols≤C)(A:Nat→Nat→Int):
  qgg (T2 R C A) (cols:Int)=some (T2 R C (cp R A cols).A,jy (cp R A cols).piv,(cp R A cols).den,sgn (cp R A cols).sw,()):=by
 have h0:=j1n hR hC (A:=A) (cols:Int);have h1:qsn (T2 R C A) (cols:Int) [] [] 0 0 (0,1,1,T2 R C A,[])=some (.inl ((cp R A cols).den,sgn (cp R A cols).sw,T2 R C (cp R A cols).A,jy (cp R A cols).piv)):=
  jvb hR hC hcols (M:=A) (A:=A) cols 0 rfl many (aw (by omega))
 unfold qgg;simp(disch:=omega)only[h0,h1,rs]
end
end Go.Proofs.YtclbndfjhjladaaGreat
