/-
  Matrices: elimination without fractions: the program and the reference do the same.
-/
import Derived.Test.YtclbndfjhjladaaGreatZ4Q1
set_option linter.all false
namespace Go.Proofs.YtclbndfjhjladaaGreat
open Go.K Go.M
abbrev T2(R C:Nat)(A:Nat→Nat→Int):List (List Int):=bh R fun i=>bh C (A i)
theorem ji{R C:Nat}{A:Nat→Nat→Int}{i:Nat}(hi:i<R):(T2 R C A).getD i []=bh C (A i):=di hi
theorem c9{R C:Nat}{A:Nat→Nat→Int}:(T2 R C A).length=R:=bn _ _
theorem qgx{R C:Nat}{A B:Nat→Nat→Int}(h:∀i j,i<R→j<C→A i j=B i j):T2 R C A=T2 R C B:=bp fun i hi=>bp fun j hj=>h i j hi hj
theorem jrp{R C:Nat}{A:Nat→Nat→Int}{i:Nat}{f:Nat→Int}:(T2 R C A).set i (bh C f)=T2 R C (fun a b=>if a=i then f b else A a b):=by
 rw[ml];refine bp fun a _=> ?_
 by_cases e:a=i<;>simp[e]
abbrev w64(x:Int):Int:=IntKind.wrap .i64 x
theorem j19{n:Nat}(h:n≤9223372036854775807):IntKind.wrap .i64 (n:Int)=(n:Int):=jpa (by omega) (by omega)
theorem jg{n:Nat}(h:n≤9223372036854775806):IntKind.wrap .i64 ((n:Int)+1)=((n+1:Nat):Int):=by rw[ag];exact j19 (by omega)
def el(p f den x y:Int):Int:=w64 (Int.tdiv (w64 (w64 (p*x)-w64 (f*y))) den)
def clr(top c:Nat)(A:Nat→Nat→Int)(den:Int)(i j:Nat):Int:=if i=top then A i j else el (A top c) (A i c) den (A i j) (A top j)
def nz(A:Nat→Nat→Int)(c:Nat):Nat→Nat→Nat
 |0,k=>k
 |n+1,k=>if A k c=0 then nz A c n (k+1)else k
def swp(A:Nat→Nat→Int)(k t i j:Nat):Int:=A (if i=t then k else if i=k then t else i) j
structure RS where
 A : Nat → Nat → Int
 den : Int
 sw : Nat
 piv : List Nat
def qh9(R c:Nat)(s:RS):RS:=
 if nz s.A c (R-s.piv.length) s.piv.length=R then s
 else if nz s.A c (R-s.piv.length) s.piv.length=s.piv.length then⟨clr s.piv.length c s.A s.den,s.A s.piv.length c,s.sw,s.piv++[c]⟩
 else⟨clr s.piv.length c (swp s.A (nz s.A c (R-s.piv.length) s.piv.length) s.piv.length) s.den,s.A (nz s.A c (R-s.piv.length) s.piv.length) c,s.sw+1,s.piv++[c]⟩
def cp(R:Nat)(A:Nat→Nat→Int):Nat→RS
 |0=>⟨A,1,0,[]⟩
 |c+1=>qh9 R c (cp R A c)
theorem quh(A:Nat→Nat→Int)(c:Nat):∀(n k:Nat),k≤nz A c n k∧nz A c n k≤k+n∧(nz A c n k<k+n→A (nz A c n k) c≠0)∧∀i,k≤i→i<nz A c n k→A i c=0
 |0,k=>⟨Nat.le_refl _,Nat.le_refl _,fun h=>absurd h (by simp[nz]),fun i h1 h2=>by simp[nz]at h2;omega⟩
 |n+1,k=>by
  unfold nz;split
  ·rename_i h0;obtain⟨h1,h2,h3,h4⟩:=quh A c n (k+1);refine⟨by omega,by omega,fun h=>h3 (by omega),fun i hi hlt=> ?_⟩;by_cases e:i=k
   ·rw[e];exact h0
   ·exact h4 i (by omega) hlt
  ·rename_i h0;exact⟨Nat.le_refl _,by omega,fun _=>h0,fun i h1 h2=>by omega⟩
structure RInv (R c : Nat) (s : RS) : Prop where
 den : s.den ≠ 0
 piv : s.piv.length ≤ R
 plt : ∀ p ∈ s.piv, p < c
 swl : s.sw ≤ s.piv.length
theorem q0m(R:Nat)(A:Nat→Nat→Int):∀c,RInv R c (cp R A c)
 |0=>⟨by simp[cp],Nat.zero_le _,fun p h=>by simp[cp]at h,Nat.le_refl _⟩
 |c+1=>by
  have h:=q0m R A c;show RInv R (c+1) (qh9 R c (cp R A c));generalize cp R A c=s at h;obtain⟨h1,h2,h3,h4⟩:=quh s.A c (R-s.piv.length) s.piv.length;have hp:=h.piv;have hlt:∀p∈s.piv++[c],p<c+1:=fun p hp=>by
   rcases List.mem_append.1 hp with hp|hp
   ·have:=h.plt p hp;omega
   ·simp at hp;omega
  unfold qh9;split
  ·exact⟨h.den,h.piv,fun p hp=>by have:=h.plt p hp;omega,h.swl⟩
  ·rename_i e1;have hne:=h3 (by omega);split
   ·rename_i e2;rw[e2]at hne;exact⟨hne,by simp;omega,hlt,by have:=h.swl;simp;omega⟩
   ·exact⟨hne,by simp;omega,hlt,by have:=h.swl;simp;omega⟩
section
variable {R C : Nat}
theorem jpp(hC:C≤50){A:Nat→Nat→Int}{top i:Nat}(ht:top<R)(hi:i<R)(hne:i≠top){den:Int}(hd:den≠0)(p f a b c d e:Int)(g:List Int):
  yb a b top p i f c d ((C:Nat):Int) den e g (0,T2 R C A)=some (.inl (T2 R C (fun a b=>if a=i then el p f den (A i b) (A top b)else A a b))):=by
 refine a9 (fun j:Nat=>((j:Int),T2 R C (fun a b=>if a=i∧b<j then el p f den (A i b) (A top b)else A a b))) C (aw (by omega)) _ ?_ ?_ _ ?_
 ·intro j hj;have e1:(if top=i∧j<j then el p f den (A i j) (A top j)else A top j)=A top j:=if_neg (by omega);have e2:(if i=i∧j<j then el p f den (A i j) (A top j)else A i j)=A i j:=if_neg (by omega);simp(disch:=omega)only[ib,ji hi,ji ht,bn,di hj,e1,e2,ml,jg,qq6,rs];refine congrArg some (congrArg LR.next (Prod.ext rfl (bp fun a ha=> ?_)));by_cases h1:a=i
  ·subst h1;rw[if_pos rfl];refine bp fun b hb=> ?_
   by_cases h2:b=j
   ·subst h2;simp[el]
   ·by_cases h3:b<j
    ·have:b<j+1:=by omega
     simp[h2,h3,this]
    ·have:¬b<j+1:=by omega
     simp[h2,h3,this]
  ·rw[if_neg h1];exact bp fun b hb=>by simp[h1]
 ·simp(disch:=omega)only[ib,rs];refine congrArg some (congrArg LR.done (qgx fun a b ha hb=> ?_));by_cases h1:a=i<;>simp[h1,hb]
 ·simp
theorem jpq(hR:R≤50)(hC:C≤50){A:Nat→Nat→Int}{top c:Nat}(ht:top<R)(hc:c<C){den:Int}(hd:den≠0)(e:Int)(g:List Int):
  yc (top:Int) (c:Int) top (A top c) (R:Int) den e g (0,T2 R C A)=some (.inl (T2 R C (clr top c A den))):=by
 refine a9 (fun i:Nat=>((i:Int),T2 R C (fun a b=>if a<i then clr top c A den a b else A a b))) R (aw (by omega)) _ ?_ ?_ _ ?_
 ·intro i hi;have hfin:∀B:Nat→Nat→Int,(∀b,b<C→B i b=clr top c A den i b)→(∀a b,a<R→b<C→a≠i→B a b=if a<i then clr top c A den a b else A a b)→T2 R C B=T2 R C (fun a b=>if a<i+1 then clr top c A den a b else A a b):=fun B h1 h2=>qgx fun a b ha hb=>by
   by_cases e:a=i
   ·subst e;rw[if_pos (by omega),h1 b hb]
   ·rw[h2 a b ha hb e];by_cases h:a<i
    ·rw[if_pos h,if_pos (by omega)]
    ·rw[if_neg h,if_neg (by omega)]
  by_cases hne:i=top
  ·subst hne;simp(disch:=omega)only[ey,c9,jg,rs];refine congrArg some (congrArg LR.next (Prod.ext rfl (hfin _ (fun b hb=> ?_) fun a b ha hb he=>rfl)));rw[if_neg (by omega)];simp[clr]
  ·have hii:∀b,(if i<i then clr top c A den i b else A i b)=A i b:=fun b=>if_neg (by omega)
   have hL0:=jpp (R:=R) hC (A:=fun a b=>if a<i then clr top c A den a b else A a b) ht hi hne hd (A top c) (A i c) (top:Int) (c:Int) (R:Int) (i:Int) e g;have hine:(i:Int)≠(top:Int):=by omega
   simp(disch:=omega)only[ey,c9,ji hi,bn,di hc,hii,hL0,jg,rs];refine congrArg some (congrArg LR.next (Prod.ext rfl (hfin _ (fun b hb=> ?_) fun a b ha hb he=> ?_)))
   ·have h1:(if top<i then clr top c A den top b else A top b)=A top b:=by
     split
     ·simp[clr]
     ·rfl
    simp only[if_true,hii,h1];simp[clr,hne]
   ·simp only[if_neg he]
 ·simp(disch:=omega)only[ey,rs];refine congrArg some (congrArg LR.done (qgx fun a b ha hb=> ?_));simp[ha]
 ·simp
theorem jmj(hR:R≤50)(hC:C≤50){A:Nat→Nat→Int}{top c:Nat}(ht:top<R)(hc:c<C){den:Int}(hd:den≠0)(e:Int)(g:List Int):
  gp (top:Int) (c:Int) den e (T2 R C A) g=some (A top c,e,T2 R C (clr top c A den),g):=by
 have h:=jpq hR hC (A:=A) ht hc hd e g;unfold gp;simp(disch:=omega)only[c9,ji ht,bn,di hc,h,rs]
abbrev jy(l:List Nat):List Int:=l.map fun(v:Nat)=>(v:Int)
theorem q20(l:List Nat):(jy l).length=l.length:=by simp
theorem j1b(hR:R≤50){A:Nat→Nat→Int}{c:Nat}(hc:c<C){k:Nat}(hk:k≤R)(a b d e:Int)(x:List (List Int))(y:List Int)(f g:Int)(z:List Int):
  qpc a (c:Int) b x y d e f g (T2 R C A) z (k:Int)=some (.inl ((nz A c (R-k) k:Nat):Int)):=by
 obtain⟨h1,h2,h3,h4⟩:=quh A c (R-k) k;refine a9 (fun i:Nat=>((k+i:Nat):Int)) (nz A c (R-k) k-k) (aw (by omega)) _ ?_ ?_ _ rfl
 ·intro i hi;have h0:=h4 (k+i) (by omega) (by omega);have hkR:k+i<R:=by omega
  simp(disch:=omega)only[nr,c9,ji hkR,bn,di hc,h0,jg,decide_true,rs];rw[Nat.add_assoc]
 ·have e0:k+(nz A c (R-k) k-k)=nz A c (R-k) k:=by omega
  rw[e0];by_cases hlt:nz A c (R-k) k<R
  ·have hne:=h3 (by omega);simp(disch:=omega)only[nr,c9,ji hlt,bn,di hc,rs]
  ·simp(disch:=omega)only[nr,c9,rs]
theorem jh3{A:Nat→Nat→Int}{c:Nat}(h:(cp R A c).piv.length=R):∀n,cp R A (c+n)=cp R A c
 |0=>rfl
 |n+1=>by
  have ih:=jh3 h n;show qh9 R (c+n) (cp R A (c+n))=_;rw[ih];unfold qh9;rw[h,Nat.sub_self,if_pos (show nz _ _ 0 R=R from rfl)]
theorem jtl{A:Nat→Nat→Int}{k t:Nat}(hk:k<R)(ht:t<R):((T2 R C A).set k ((T2 R C A).getD t [])).set t ((T2 R C A).getD k [])=T2 R C (swp A k t):=by
 rw[ji hk,ji ht,jrp];rw[jrp];refine qgx fun a b _ _=> ?_
 unfold swp;by_cases e1:a=t
 ·rw[if_pos e1,if_pos e1]
 ·rw[if_neg e1,if_neg e1];by_cases e2:a=k
  ·rw[if_pos e2,if_pos e2]
  ·rw[if_neg e2,if_neg e2]
def qoe(R C:Nat)(cols:Nat)(a:Int×Int×Int×List (List Int)×List Int):Option (LR (Int×Int×Int×List (List Int)×List Int) (Int×Int×List (List Int)×List Int) az):=
 fk (cols:Int) [] [] 0 0 a.1 a.2.1 a.2.2.1 a.2.2.2.1 a.2.2.2.2 (fun a' =>some (.next a')) (fun e=>some (.done e)) (fun r=>some (.ret r))
theorem ju3(hR:R≤50)(hC:C≤50){cols:Nat}(hcols:cols≤C){A:Nat→Nat→Int}{c:Nat}(hc:c<cols)(hp:(cp R A c).piv.length<R):
  qoe R C cols ((c:Int),(cp R A c).den,((cp R A c).sw:Int),T2 R C (cp R A c).A,jy (cp R A c).piv)=some (.next (((c+1:Nat):Int),(cp R A (c+1)).den,((cp R A (c+1)).sw:Int),T2 R C (cp R A (c+1)).A,jy (cp R A (c+1)).piv)):=by
 have hI:=q0m R A c;show _=some (LR.next (((c+1:Nat):Int),(qh9 R c (cp R A c)).den,((qh9 R c (cp R A c)).sw:Int),T2 R C (qh9 R c (cp R A c)).A,jy (qh9 R c (cp R A c)).piv));generalize cp R A c=s at hI hp;obtain⟨h1,h2,h3,h4⟩:=quh s.A c (R-s.piv.length) s.piv.length;have hcC:c<C:=by omega
 have hcl:=q20 s.piv;have hsw:=hI.swl;have hL1:=j1b hR (A:=s.A) hcC (k:=s.piv.length) (by omega) (cols:Int) (s.piv.length:Int) 0 0 [] [] s.den (s.sw:Int) (jy s.piv);unfold qh9;by_cases e1:nz s.A c (R-s.piv.length) s.piv.length=R
 ·rw[if_pos e1];rw[e1]at hL1;simp(disch:=omega)only[qoe,fk,hcl,c9,hL1,jg,decide_true,rs]
 ·rw[if_neg e1];have hk:nz s.A c (R-s.piv.length) s.piv.length<R:=by omega
  have e1' :((nz s.A c (R-s.piv.length) s.piv.length:Nat):Int)≠(R:Int):=by omega
  by_cases e2:nz s.A c (R-s.piv.length) s.piv.length=s.piv.length
  ·rw[if_pos e2];have e2' :((nz s.A c (R-s.piv.length) s.piv.length:Nat):Int)=(s.piv.length:Int):=by omega
   have hcz:=jmj hR hC (A:=s.A) hp hcC hI.den (s.sw:Int) (jy s.piv);simp(disch:=omega)only[qoe,fk,hcl,c9,hL1,hcz,jg,decide_true,ls,rs];simp[jy]
  ·rw[if_neg e2];have e2' :((nz s.A c (R-s.piv.length) s.piv.length:Nat):Int)≠(s.piv.length:Int):=by omega
   have hcz:=jmj hR hC (A:=swp s.A (nz s.A c (R-s.piv.length) s.piv.length) s.piv.length) hp hcC hI.den ((s.sw+1:Nat):Int) (jy s.piv);have hsp:=jtl (C:=C) (A:=s.A) hk hp;have hval:swp s.A (nz s.A c (R-s.piv.length) s.piv.length) s.piv.length s.piv.length c=s.A (nz s.A c (R-s.piv.length) s.piv.length) c:=by simp[swp]
   rw[hval]at hcz;simp(disch:=omega)only[qoe,fk,hcl,c9,hL1,hsp,hcz,jg,decide_true,ls,rs];simp[jy]
theorem ju2(hR:R≤50)(hC:C≤50){cols:Nat}(hcols:cols≤C){A:Nat→Nat→Int}:∀(n c:Nat),n+c=cols→∀m,n<m→
  q3n (qoe R C cols) m ((c:Int),(cp R A c).den,((cp R A c).sw:Int),T2 R C (cp R A c).A,jy (cp R A c).piv)=some (.inl ((cp R A cols).den,((cp R A cols).sw:Int),T2 R C (cp R A cols).A,jy (cp R A cols).piv)):=by
 intro n
 induction n with
 |zero=>
  intro c hc m hm;obtain⟨m,rfl⟩:∃q,m=q+1:=⟨m-1,by omega⟩;obtain rfl:c=cols:=by omega
  have hs:qoe R C c ((c:Int),(cp R A c).den,((cp R A c).sw:Int),T2 R C (cp R A c).A,jy (cp R A c).piv)=some (.done ((cp R A c).den,((cp R A c).sw:Int),T2 R C (cp R A c).A,jy (cp R A c).piv)):=by
   simp(disch:=omega)only[qoe,fk,rs]
  rw[nq,hs];rfl
 |succ n ih=>
  intro c hc m hm;obtain⟨m,rfl⟩:∃q,m=q+1:=⟨m-1,by omega⟩;have hI:=q0m R A c;by_cases hp:(cp R A c).piv.length<R
  ·rw[nq,ju3 hR hC hcols (by omega) hp,au];exact ih (c+1) (by omega) m (by omega)
  ·have hpe:(cp R A c).piv.length=R:=by have:=hI.piv;omega
   have hfull:=jh3 hpe (cols-c);rw[show c+(cols-c)=cols by omega]at hfull;have hcl:=q20 (cp R A c).piv;have hs:qoe R C cols ((c:Int),(cp R A c).den,((cp R A c).sw:Int),T2 R C (cp R A c).A,jy (cp R A c).piv)=some (.done ((cp R A c).den,((cp R A c).sw:Int),T2 R C (cp R A c).A,jy (cp R A c).piv)):=by
    simp(disch:=omega)only[qoe,fk,hcl,c9,rs]
   rw[nq,hs,hfull];rfl
theorem jwq(l:List Int)(h0:0<l.length)(h:l.length≤50):b8 l=some l:=vg l (by omega)
theorem jn6(hR:R≤50)(hC:C≤50)(hC0:0<C){A:Nat→Nat→Int}(a:Int):qpb a (T2 R C A) (R:Int) [] [] 0 0 1 0 [] (0,[])=some (.inl (T2 R C A)):=by
 refine a9 (fun i:Nat=>((i:Int),T2 i C A)) R (aw (by omega)) _ ?_ ?_ _ rfl
 ·intro i hi;have hcl:=jwq (bh C (A i)) (by rw[bn];exact hC0) (by rw[bn];exact hC);simp(disch:=omega)only[uc,c9,ji hi,hcl,jg,rs];rw[T2,←mm]
 ·simp(disch:=omega)only[uc,c9,rs]
theorem ju6(hR:R≤50)(hC:C≤50)(hC0:0<C){cols:Nat}(hcols:cols≤C)(A:Nat→Nat→Int):
  qdj (T2 R C A) (cols:Int)=some (T2 R C (cp R A cols).A,jy (cp R A cols).piv,(cp R A cols).den,((cp R A cols).sw:Int),()):=by
 have h0:=jn6 hR hC hC0 (A:=A) (cols:Int);have h1:qpd (cols:Int) [] [] 0 0 (0,1,0,T2 R C A,[])=some (.inl ((cp R A cols).den,((cp R A cols).sw:Int),T2 R C (cp R A cols).A,jy (cp R A cols).piv)):=
  ju2 hR hC hcols (A:=A) cols 0 rfl many (aw (by omega))
 unfold qdj;simp(disch:=omega)only[c9,h0,h1,rs]
end
end Go.Proofs.YtclbndfjhjladaaGreat
