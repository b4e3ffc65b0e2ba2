/-
  Matrices: Valid, and which are too great for the statements.
-/
import Derived.Test.YtclbndfjhjladaaGreatZ5PF12
set_option linter.all false
namespace Go.Proofs.YtclbndfjhjladaaGreat
open Go.K Go.M
def qxx(x:Int):Bool:=decide (-1048576≤x)&&decide (x≤1048576)
def jdn(m:List (List Int)):Bool:=decide (1≤m.length)&&decide (m.length≤20)&&decide (1≤(m.getD 0 []).length)&&decide ((m.getD 0 []).length≤20)&&m.all fun r=>decide (r.length=(m.getD 0 []).length)&&r.all qxx
theorem quk(x:Int):us x=some (!qxx x):=by
 unfold us qxx;by_cases h:x< -1048576
 ·have:¬-1048576≤x:=by omega
  rw[ve h,decide_eq_false this];rfl
 ·have h' : -1048576≤x:=by omega
  rw[wq h',decide_eq_true h'];by_cases h2:1048576<x
  ·have:¬x≤1048576:=by omega
   rw[decide_eq_true h2,decide_eq_false this];rfl
  ·have:x≤1048576:=by omega
   rw[decide_eq_false h2,decide_eq_true this];rfl
theorem jhi(l:List Int)(hl:l.length≤9223372036854775806):zh l=some (l.all qxx):=by
 obtain⟨o,ho,hq⟩:=jfk (step:=fun a=>ci l (l.length:Int) a (fun a' =>some (.next a')) (fun e=>some (.done e)) (fun r=>some (.ret r))) l 0 (fun x=> !qxx x) hl (fun i hi=>by
  cases he:qxx (l.getD i 0)with
  |true=>
   simp(disch:=omega)only[ci,quk,he,Bool.not_true,rs];rw[ah]
  |false=>
   simp(disch:=omega)only[ci,quk,he,Bool.not_false,rs]) (by simp(disch:=omega)only[ci,rs])
 have ho' :oy l (l.length:Int) 0=some o:=ho;unfold zh ie j8;rw[ho',ax];have:(l.all qxx)= !(l.any fun x=> !qxx x):=by rw[List.not_any_eq_all_not];simp
 rw[this,←hq];cases o<;>rfl
theorem jgt(r:List Int)(m:List (List Int))(h0:0<m.length)(hr:r.length≤9223372036854775806):zg r m=some (!(decide (r.length=(m.getD 0 []).length)&&r.all qxx)):=by
 unfold zg;by_cases h:r.length=(m.getD 0 []).length
 ·have h' :(r.length:Int)=((m.getD 0 []).length:Int):=by omega
  simp(disch:=omega)only[jhi r hr,rs];rw[decide_eq_true h,Bool.true_and]
 ·have h' :(r.length:Int)≠((m.getD 0 []).length:Int):=by omega
  simp(disch:=omega)only[rs];rw[decide_eq_false h];rfl
theorem jms(m:List (List Int))(hr:∀r∈m,r.length≤9223372036854775806):qfa m=some (jdn m):=by
 unfold qfa jdn;by_cases h1:(m.length:Int)<1
 ·have:¬1≤m.length:=by omega
  simp(disch:=omega)only[rs];rw[decide_eq_false this];rfl
 ·have h1' :1≤m.length:=by omega
  rw[decide_eq_true h1'];by_cases h2:20<(m.length:Int)
  ·have:¬m.length≤20:=by omega
   simp(disch:=omega)only[rs];rw[decide_eq_false this];rfl
  ·have h2' :m.length≤20:=by omega
   rw[decide_eq_true h2'];by_cases h3:((m.getD 0 []).length:Int)<1
   ·have:¬1≤(m.getD 0 []).length:=by omega
    simp(disch:=omega)only[rs];rw[decide_eq_false this];rfl
   ·have h3' :1≤(m.getD 0 []).length:=by omega
    rw[decide_eq_true h3'];by_cases h4:20<((m.getD 0 []).length:Int)
    ·have:¬(m.getD 0 []).length≤20:=by omega
     simp(disch:=omega)only[rs];rw[decide_eq_false this];rfl
    ·have h4' :(m.getD 0 []).length≤20:=by omega
     rw[decide_eq_true h4'];obtain⟨o,ho,hq⟩:=jfk (step:=fun a=>cg m m (m.length:Int) a (fun a' =>some (.next a')) (fun e=>some (.done e)) (fun r=>some (.ret r))) m [] (fun r=> !(decide (r.length=(m.getD 0 []).length)&&r.all qxx)) (by omega) (fun i hi=>by
      have hv:=jgt (m.getD i []) m (by omega) (hr _ (au [] hi));cases he:(decide ((m.getD i []).length=(m.getD 0 []).length)&&(m.getD i []).all qxx)with
      |true=>
       rw[he]at hv;simp(disch:=omega)only[cg,hv,Bool.not_true,rs];rw[ah]
      |false=>
       rw[he]at hv;simp(disch:=omega)only[cg,hv,Bool.not_false,rs]) (by simp(disch:=omega)only[cg,rs])
     have ho' :ow m m (m.length:Int) 0=some o:=ho;simp(disch:=omega)only[ic,j7,ho',rs];have:(m.all fun r=>decide (r.length=(m.getD 0 []).length)&&r.all qxx)= !(m.any fun r=> !(decide (r.length=(m.getD 0 []).length)&&r.all qxx)):=by rw[List.not_any_eq_all_not];simp
     rw[this,←hq];cases o<;>rfl
def okL(n:Nat):Prop:=n≤12∨(20<n∧n≤40)
def okM(m:List (List Int)):Prop:=okL m.length∧∀r∈m,okL r.length
theorem okM.row{m:List (List Int)}(h:okM m):∀r∈m,r.length≤9223372036854775806:=fun r hr=>by
 have:=h.2 r hr;unfold okL at this;omega
end Go.Proofs.YtclbndfjhjladaaGreat
set_option linter.all false
namespace Go.Proofs.YtclbndfjhjladaaGreat
open Go.K Go.M
abbrev T2(R C:Nat)(A:Nat→Nat→Int):List (List Int):=bh R fun i=>bh C (A i)
theorem qd3{R C:Nat}{A:Nat→Nat→Int}{i:Nat}(hi:i<R):(T2 R C A).getD i []=bh C (A i):=fq hi
theorem tw{R C:Nat}{A:Nat→Nat→Int}:(T2 R C A).length=R:=cq _ _
theorem qt5{R C:Nat}{A B:Nat→Nat→Int}(h:∀i j,i<R→j<C→A i j=B i j):T2 R C A=T2 R C B:=cd fun i hi=>cd fun j hj=>h i j hi hj
theorem ji6{R C:Nat}{A:Nat→Nat→Int}{i:Nat}{f:Nat→Int}:(T2 R C A).set i (bh C f)=T2 R C (fun a b=>if a=i then f b else A a b):=by
 rw[qr];refine cd fun a _=> ?_
 by_cases e:a=i<;>simp[e]
abbrev w64(x:Int):Int:=IntKind.wrap .i64 x
theorem jun{n:Nat}(h:n≤9223372036854775807):IntKind.wrap .i64 (n:Int)=(n:Int):=q72 (by omega) (by omega)
theorem qd0{n:Nat}(h:n≤9223372036854775806):IntKind.wrap .i64 ((n:Int)+1)=((n+1:Nat):Int):=by rw[ah];exact jun (by omega)
def el(p f den x y:Int):Int:=w64 (Int.tdiv (w64 (w64 (p*x)-w64 (f*y))) den)
def clr(top c:Nat)(A:Nat→Nat→Int)(den:Int)(i j:Nat):Int:=if i=top then A i j else el (A top c) (A i c) den (A i j) (A top j)
def nz(A:Nat→Nat→Int)(c:Nat):Nat→Nat→Nat
 |0,k=>k
 |n+1,k=>if A k c=0 then nz A c n (k+1)else k
def swp(A:Nat→Nat→Int)(k t i j:Nat):Int:=A (if i=t then k else if i=k then t else i) j
structure RS where
 A : Nat → Nat → Int
 den : Int
 sw : Nat
 piv : List Nat
def qn5(R c:Nat)(s:RS):RS:=
 if nz s.A c (R-s.piv.length) s.piv.length=R then s
 else if nz s.A c (R-s.piv.length) s.piv.length=s.piv.length then⟨clr s.piv.length c s.A s.den,s.A s.piv.length c,s.sw,s.piv++[c]⟩
 else⟨clr s.piv.length c (swp s.A (nz s.A c (R-s.piv.length) s.piv.length) s.piv.length) s.den,s.A (nz s.A c (R-s.piv.length) s.piv.length) c,s.sw+1,s.piv++[c]⟩
def cz(R:Nat)(A:Nat→Nat→Int):Nat→RS
 |0=>⟨A,1,0,[]⟩
 |c+1=>qn5 R c (cz R A c)
theorem qvx(A:Nat→Nat→Int)(c:Nat):∀(n k:Nat),k≤nz A c n k∧nz A c n k≤k+n∧(nz A c n k<k+n→A (nz A c n k) c≠0)∧∀i,k≤i→i<nz A c n k→A i c=0
 |0,k=>⟨Nat.le_refl _,Nat.le_refl _,fun h=>absurd h (by simp[nz]),fun i h1 h2=>by simp[nz]at h2;omega⟩
 |n+1,k=>by
  unfold nz;split
  ·rename_i h0;obtain⟨h1,h2,h3,h4⟩:=qvx A c n (k+1);refine⟨by omega,by omega,fun h=>h3 (by omega),fun i hi hlt=> ?_⟩;by_cases e:i=k
   ·rw[e];exact h0
   ·exact h4 i (by omega) hlt
  ·rename_i h0;exact⟨Nat.le_refl _,by omega,fun _=>h0,fun i h1 h2=>by omega⟩
structure RInv (R c : Nat) (s : RS) : Prop where
 den : s.den ≠ 0
 piv : s.piv.length ≤ R
 plt : ∀ p ∈ s.piv, p < c
 swl : s.sw ≤ s.piv.length
theorem q60(R:Nat)(A:Nat→Nat→Int):∀c,RInv R c (cz R A c)
 |0=>⟨by simp[cz],Nat.zero_le _,fun p h=>by simp[cz]at h,Nat.le_refl _⟩
 |c+1=>by
  have h:=q60 R A c;show RInv R (c+1) (qn5 R c (cz R A c));generalize cz R A c=s at h;obtain⟨h1,h2,h3,h4⟩:=qvx s.A c (R-s.piv.length) s.piv.length;have hp:=h.piv;have hlt:∀p∈s.piv++[c],p<c+1:=fun p hp=>by
   rcases List.mem_append.1 hp with hp|hp
   ·have:=h.plt p hp;omega
   ·simp at hp;omega
  unfold qn5;split
  ·exact⟨h.den,h.piv,fun p hp=>by have:=h.plt p hp;omega,h.swl⟩
  ·rename_i e1;have hne:=h3 (by omega);split
   ·rename_i e2;rw[e2]at hne;exact⟨hne,by simp;omega,hlt,by have:=h.swl;simp;omega⟩
   ·exact⟨hne,by simp;omega,hlt,by have:=h.swl;simp;omega⟩
section
variable {R C : Nat}
theorem jg4(hC:C≤50){A:Nat→Nat→Int}{top i:Nat}(ht:top<R)(hi:i<R)(hne:i≠top){den:Int}(hd:den≠0)(p f a b c d e:Int)(g:List Int):
  x6 a b top p i f c d ((C:Nat):Int) den e g (0,T2 R C A)=some (.inl (T2 R C (fun a b=>if a=i then el p f den (A i b) (A top b)else A a b))):=by
 refine cn (fun j:Nat=>((j:Int),T2 R C (fun a b=>if a=i∧b<j then el p f den (A i b) (A top b)else A a b))) C (bc (by omega)) _ ?_ ?_ _ ?_
 ·intro j hj;have e1:(if top=i∧j<j then el p f den (A i j) (A top j)else A top j)=A top j:=if_neg (by omega);have e2:(if i=i∧j<j then el p f den (A i j) (A top j)else A i j)=A i j:=if_neg (by omega);simp(disch:=omega)only[je,qd3 hi,qd3 ht,cq,fq hj,e1,e2,qr,qd0,q4n,rs];refine congrArg some (congrArg LR.next (Prod.ext rfl (cd fun a ha=> ?_)));by_cases h1:a=i
  ·subst h1;rw[if_pos rfl];refine cd fun b hb=> ?_
   by_cases h2:b=j
   ·subst h2;simp[el]
   ·by_cases h3:b<j
    ·have:b<j+1:=by omega
     simp[h2,h3,this]
    ·have:¬b<j+1:=by omega
     simp[h2,h3,this]
  ·rw[if_neg h1];exact cd fun b hb=>by simp[h1]
 ·simp(disch:=omega)only[je,rs];refine congrArg some (congrArg LR.done (qt5 fun a b ha hb=> ?_));by_cases h1:a=i<;>simp[h1,hb]
 ·simp
theorem jg5(hR:R≤50)(hC:C≤50){A:Nat→Nat→Int}{top c:Nat}(ht:top<R)(hc:c<C){den:Int}(hd:den≠0)(e:Int)(g:List Int):
  x7 (top:Int) (c:Int) top (A top c) (R:Int) den e g (0,T2 R C A)=some (.inl (T2 R C (clr top c A den))):=by
 refine cn (fun i:Nat=>((i:Int),T2 R C (fun a b=>if a<i then clr top c A den a b else A a b))) R (bc (by omega)) _ ?_ ?_ _ ?_
 ·intro i hi;have hfin:∀B:Nat→Nat→Int,(∀b,b<C→B i b=clr top c A den i b)→(∀a b,a<R→b<C→a≠i→B a b=if a<i then clr top c A den a b else A a b)→T2 R C B=T2 R C (fun a b=>if a<i+1 then clr top c A den a b else A a b):=fun B h1 h2=>qt5 fun a b ha hb=>by
   by_cases e:a=i
   ·subst e;rw[if_pos (by omega),h1 b hb]
   ·rw[h2 a b ha hb e];by_cases h:a<i
    ·rw[if_pos h,if_pos (by omega)]
    ·rw[if_neg h,if_neg (by omega)]
  by_cases hne:i=top
  ·subst hne;simp(disch:=omega)only[fm,tw,qd0,rs];refine congrArg some (congrArg LR.next (Prod.ext rfl (hfin _ (fun b hb=> ?_) fun a b ha hb he=>rfl)));rw[if_neg (by omega)];simp[clr]
  ·have hii:∀b,(if i<i then clr top c A den i b else A i b)=A i b:=fun b=>if_neg (by omega)
   have hL0:=jg4 (R:=R) hC (A:=fun a b=>if a<i then clr top c A den a b else A a b) ht hi hne hd (A top c) (A i c) (top:Int) (c:Int) (R:Int) (i:Int) e g;have hine:(i:Int)≠(top:Int):=by omega
   simp(disch:=omega)only[fm,tw,qd3 hi,cq,fq hc,hii,hL0,qd0,rs];refine congrArg some (congrArg LR.next (Prod.ext rfl (hfin _ (fun b hb=> ?_) fun a b ha hb he=> ?_)))
   ·have h1:(if top<i then clr top c A den top b else A top b)=A top b:=by
     split
     ·simp[clr]
     ·rfl
    simp only[if_true,hii,h1];simp[clr,hne]
   ·simp only[if_neg he]
 ·simp(disch:=omega)only[fm,rs];refine congrArg some (congrArg LR.done (qt5 fun a b ha hb=> ?_));simp[ha]
 ·simp
theorem jea(hR:R≤50)(hC:C≤50){A:Nat→Nat→Int}{top c:Nat}(ht:top<R)(hc:c<C){den:Int}(hd:den≠0)(e:Int)(g:List Int):
  iv (top:Int) (c:Int) den e (T2 R C A) g=some (A top c,e,T2 R C (clr top c A den),g):=by
 have h:=jg5 hR hC (A:=A) ht hc hd e g;unfold iv;simp(disch:=omega)only[tw,qd3 ht,cq,fq hc,h,rs]
abbrev qbb(l:List Nat):List Int:=l.map fun(v:Nat)=>(v:Int)
theorem qxq(l:List Nat):(qbb l).length=l.length:=by simp
theorem jtu(hR:R≤50){A:Nat→Nat→Int}{c:Nat}(hc:c<C){k:Nat}(hk:k≤R)(a b d e:Int)(x:List (List Int))(y:List Int)(f g:Int)(z:List Int):
  qnl a (c:Int) b x y d e f g (T2 R C A) z (k:Int)=some (.inl ((nz A c (R-k) k:Nat):Int)):=by
 obtain⟨h1,h2,h3,h4⟩:=qvx A c (R-k) k;refine cn (fun i:Nat=>((k+i:Nat):Int)) (nz A c (R-k) k-k) (bc (by omega)) _ ?_ ?_ _ rfl
 ·intro i hi;have h0:=h4 (k+i) (by omega) (by omega);have hkR:k+i<R:=by omega
  simp(disch:=omega)only[oh,tw,qd3 hkR,cq,fq hc,h0,qd0,decide_true,rs];rw[Nat.add_assoc]
 ·have e0:k+(nz A c (R-k) k-k)=nz A c (R-k) k:=by omega
  rw[e0];by_cases hlt:nz A c (R-k) k<R
  ·have hne:=h3 (by omega);simp(disch:=omega)only[oh,tw,qd3 hlt,cq,fq hc,rs]
  ·simp(disch:=omega)only[oh,tw,rs]
theorem jab{A:Nat→Nat→Int}{c:Nat}(h:(cz R A c).piv.length=R):∀n,cz R A (c+n)=cz R A c
 |0=>rfl
 |n+1=>by
  have ih:=jab h n;show qn5 R (c+n) (cz R A (c+n))=_;rw[ih];unfold qn5;rw[h,Nat.sub_self,if_pos (show nz _ _ 0 R=R from rfl)]
theorem jui{A:Nat→Nat→Int}{k t:Nat}(hk:k<R)(ht:t<R):((T2 R C A).set k ((T2 R C A).getD t [])).set t ((T2 R C A).getD k [])=T2 R C (swp A k t):=by
 rw[qd3 hk,qd3 ht,ji6];rw[ji6];refine qt5 fun a b _ _=> ?_
 unfold swp;by_cases e1:a=t
 ·rw[if_pos e1,if_pos e1]
 ·rw[if_neg e1,if_neg e1];by_cases e2:a=k
  ·rw[if_pos e2,if_pos e2]
  ·rw[if_neg e2,if_neg e2]
def qma(R C:Nat)(cols:Nat)(a:Int×Int×Int×List (List Int)×List Int):Option (LR (Int×Int×Int×List (List Int)×List Int) (Int×Int×List (List Int)×List Int) db):=
 f8 (cols:Int) [] [] 0 0 a.1 a.2.1 a.2.2.1 a.2.2.2.1 a.2.2.2.2 (fun a' =>some (.next a')) (fun e=>some (.done e)) (fun r=>some (.ret r))
theorem jm5(hR:R≤50)(hC:C≤50){cols:Nat}(hcols:cols≤C){A:Nat→Nat→Int}{c:Nat}(hc:c<cols)(hp:(cz R A c).piv.length<R):
  qma R C cols ((c:Int),(cz R A c).den,((cz R A c).sw:Int),T2 R C (cz R A c).A,qbb (cz R A c).piv)=some (.next (((c+1:Nat):Int),(cz R A (c+1)).den,((cz R A (c+1)).sw:Int),T2 R C (cz R A (c+1)).A,qbb (cz R A (c+1)).piv)):=by
 have hI:=q60 R A c;show _=some (LR.next (((c+1:Nat):Int),(qn5 R c (cz R A c)).den,((qn5 R c (cz R A c)).sw:Int),T2 R C (qn5 R c (cz R A c)).A,qbb (qn5 R c (cz R A c)).piv));generalize cz R A c=s at hI hp;obtain⟨h1,h2,h3,h4⟩:=qvx s.A c (R-s.piv.length) s.piv.length;have hcC:c<C:=by omega
 have hcl:=qxq s.piv;have hsw:=hI.swl;have hL1:=jtu hR (A:=s.A) hcC (k:=s.piv.length) (by omega) (cols:Int) (s.piv.length:Int) 0 0 [] [] s.den (s.sw:Int) (qbb s.piv);unfold qn5;by_cases e1:nz s.A c (R-s.piv.length) s.piv.length=R
 ·rw[if_pos e1];rw[e1]at hL1;simp(disch:=omega)only[qma,f8,hcl,tw,hL1,qd0,decide_true,rs]
 ·rw[if_neg e1];have hk:nz s.A c (R-s.piv.length) s.piv.length<R:=by omega
  have e1' :((nz s.A c (R-s.piv.length) s.piv.length:Nat):Int)≠(R:Int):=by omega
  by_cases e2:nz s.A c (R-s.piv.length) s.piv.length=s.piv.length
  ·rw[if_pos e2];have e2' :((nz s.A c (R-s.piv.length) s.piv.length:Nat):Int)=(s.piv.length:Int):=by omega
   have hcz:=jea hR hC (A:=s.A) hp hcC hI.den (s.sw:Int) (qbb s.piv);simp(disch:=omega)only[qma,f8,hcl,tw,hL1,hcz,qd0,decide_true,nu,rs];simp[qbb]
  ·rw[if_neg e2];have e2' :((nz s.A c (R-s.piv.length) s.piv.length:Nat):Int)≠(s.piv.length:Int):=by omega
   have hcz:=jea hR hC (A:=swp s.A (nz s.A c (R-s.piv.length) s.piv.length) s.piv.length) hp hcC hI.den ((s.sw+1:Nat):Int) (qbb s.piv);have hsp:=jui (C:=C) (A:=s.A) hk hp;have hval:swp s.A (nz s.A c (R-s.piv.length) s.piv.length) s.piv.length s.piv.length c=s.A (nz s.A c (R-s.piv.length) s.piv.length) c:=by simp[swp]
   rw[hval]at hcz;simp(disch:=omega)only[qma,f8,hcl,tw,hL1,hsp,hcz,qd0,decide_true,nu,rs];simp[qbb]
theorem jm4(hR:R≤50)(hC:C≤50){cols:Nat}(hcols:cols≤C){A:Nat→Nat→Int}:∀(n c:Nat),n+c=cols→∀m,n<m→
  qva (qma R C cols) m ((c:Int),(cz R A c).den,((cz R A c).sw:Int),T2 R C (cz R A c).A,qbb (cz R A c).piv)=some (.inl ((cz R A cols).den,((cz R A cols).sw:Int),T2 R C (cz R A cols).A,qbb (cz R A cols).piv)):=by
 intro n
 induction n with
 |zero=>
  intro c hc m hm;obtain⟨m,rfl⟩:∃q,m=q+1:=⟨m-1,by omega⟩;obtain rfl:c=cols:=by omega
  have hs:qma R C c ((c:Int),(cz R A c).den,((cz R A c).sw:Int),T2 R C (cz R A c).A,qbb (cz R A c).piv)=some (.done ((cz R A c).den,((cz R A c).sw:Int),T2 R C (cz R A c).A,qbb (cz R A c).piv)):=by
   simp(disch:=omega)only[qma,f8,rs]
  rw[n8,hs];rfl
 |succ n ih=>
  intro c hc m hm;obtain⟨m,rfl⟩:∃q,m=q+1:=⟨m-1,by omega⟩;have hI:=q60 R A c;by_cases hp:(cz R A c).piv.length<R
  ·rw[n8,jm5 hR hC hcols (by omega) hp,ax];exact ih (c+1) (by omega) m (by omega)
  ·have hpe:(cz R A c).piv.length=R:=by have:=hI.piv;omega
   have hfull:=jab hpe (cols-c);rw[show c+(cols-c)=cols by omega]at hfull;have hcl:=qxq (cz R A c).piv;have hs:qma R C cols ((c:Int),(cz R A c).den,((cz R A c).sw:Int),T2 R C (cz R A c).A,qbb (cz R A c).piv)=some (.done ((cz R A c).den,((cz R A c).sw:Int),T2 R C (cz R A c).A,qbb (cz R A c).piv)):=by
    simp(disch:=omega)only[qma,f8,hcl,tw,rs]
   rw[n8,hs,hfull];rfl
theorem joq(l:List Int)(h0:0<l.length)(h:l.length≤50):b8 l=some l:=vp l (by omega)
theorem jf2(hR:R≤50)(hC:C≤50)(hC0:0<C){A:Nat→Nat→Int}(a:Int):qnk a (T2 R C A) (R:Int) [] [] 0 0 1 0 [] (0,[])=some (.inl (T2 R C A)):=by
 refine cn (fun i:Nat=>((i:Int),T2 i C A)) R (bc (by omega)) _ ?_ ?_ _ rfl
 ·intro i hi;have hcl:=joq (bh C (A i)) (by rw[cq];exact hC0) (by rw[cq];exact hC);simp(disch:=omega)only[ut,tw,qd3 hi,hcl,qd0,rs];rw[T2,←qkz]
 ·simp(disch:=omega)only[ut,tw,rs]
theorem jm7(hR:R≤50)(hC:C≤50)(hC0:0<C){cols:Nat}(hcols:cols≤C)(A:Nat→Nat→Int):
  qcx (T2 R C A) (cols:Int)=some (T2 R C (cz R A cols).A,qbb (cz R A cols).piv,(cz R A cols).den,((cz R A cols).sw:Int),()):=by
 have h0:=jf2 hR hC hC0 (A:=A) (cols:Int);have h1:qnm (cols:Int) [] [] 0 0 (0,1,0,T2 R C A,[])=some (.inl ((cz R A cols).den,((cz R A cols).sw:Int),T2 R C (cz R A cols).A,qbb (cz R A cols).piv)):=
  jm4 hR hC hcols (A:=A) cols 0 rfl many (bc (by omega))
 unfold qcx;simp(disch:=omega)only[tw,h0,h1,rs]
end
end Go.Proofs.YtclbndfjhjladaaGreat
