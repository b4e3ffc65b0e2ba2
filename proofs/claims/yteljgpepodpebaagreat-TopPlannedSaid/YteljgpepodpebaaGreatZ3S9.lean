/-
  Rotas: what the linear program of the first box says.
-/
import Derived.Test.YteljgpepodpebaaGreatZ3S8
set_option linter.all false
namespace Go.Proofs.YteljgpepodpebaaGreat
open Go.K Go.M
theorem qz3(f:Nat→Rat)(P:Nat):∀n:Nat,d4 (P+n) f=d4 P f+d4 n (fun i=>f (P+i))
 |0=>by show d4 P f=d4 P f+0;grind
 |n+1=>by
  show d4 (P+n) f+f (P+n)=d4 P f+(d4 n _+f (P+n));rw[qz3 f P n]
  grind
theorem jcm(d:List Int)(F:Nat→Nat→Rat):∀k:Nat,d4 (je d k).length (fun i=>F ((je d k).getD i 0) i)=d4 k (fun t=>if 0<d.getD t 0 then F t (je d t).length else 0)
 |0=>rfl
 |k+1=>by
  have h:=jcm d F k;show _=d4 k _+(if 0<d.getD k 0 then F k (je d k).length else 0);by_cases c:0<d.getD k 0
  ·have e:je d (k+1)=je d k++[k]:=if_pos c;rw[e,List.length_append,if_pos c,←h];show d4 (je d k).length _+F ((je d k++[k]).getD (je d k).length 0) (je d k).length=_;rw[show(je d k++[k]).getD (je d k).length 0=k by simp];congr 1;exact cp fun i hi=>by rw[List.getD_eq_getElem?_getD,List.getElem?_append_left hi,←List.getD_eq_getElem?_getD]
  ·have e:je d (k+1)=je d k:=if_neg c;rw[e,if_neg c,h]
   grind
theorem jcl{d:List Int}{t:Nat}(ht:0<d.getD t 0):∀{k:Nat},t<k→(je d t).length<(je d k).length∧(je d k).getD (je d t).length 0=t
 |0,h=>by omega
 |k+1,h=>by
  by_cases e:t=k
  ·subst e;have e:je d (t+1)=je d t++[t]:=if_pos ht;rw[e,List.length_append];exact⟨by show _<_+1;omega,by simp⟩
  ·obtain⟨h1,h2⟩:=jcl ht (k:=k) (by omega);by_cases c:0<d.getD k 0
   ·have e:je d (k+1)=je d k++[k]:=if_pos c;rw[e,List.length_append];refine⟨by show _<_+1;omega,?_⟩;rw[List.getD_eq_getElem?_getD,List.getElem?_append_left h1,←List.getD_eq_getElem?_getD];exact h2
   ·have e:je d (k+1)=je d k:=if_neg c;rw[e];exact⟨h1,h2⟩
theorem jsy{n:Nat}{hi:List Int}{lo:List Int}(h:∀i,lo.getD i 0=0):∀k,ue n lo hi k=be k (qnz n hi)
 |0=>rfl
 |k+1=>by
  unfold ue;rw[if_neg (by rw[h];omega),jsy h k,s8]
theorem qrh(n i:Nat):(List.replicate n (0:Int)).getD i 0=0:=by
 rw[List.getD_eq_getElem?_getD,List.getElem?_replicate];split<;>rfl
def ck(d:List Int)(l:List ae):List Row:=qpi d l (List.replicate l.length 0) (gu l)
theorem q5s(d:List Int)(l:List ae):ck d l=(je d d.length).map (mn d l)++be l.length (qnz l.length (gu l)):=by
 unfold ck qpi;rw[jsy (fun i=>qrh _ i)]
theorem th(d:List Int)(l:List ae):(ck d l).length=(je d d.length).length+l.length:=by rw[q5s,List.length_append,List.length_map,db]
theorem q2w{d:List Int}{l:List ae}{i:Nat}(hi:i<(je d d.length).length):(ck d l).getD i qn0=mn d l ((je d d.length).getD i 0):=by
 rw[q5s,List.getD_eq_getElem?_getD,List.getElem?_append_left (by rw[List.length_map];exact hi),←List.getD_eq_getElem?_getD];exact qcn hi _ _
theorem q2v{d:List Int}{l:List ae}{i:Nat}(hi:i<l.length):(ck d l).getD ((je d d.length).length+i) qn0=qnz l.length (gu l) i:=by
 have e:((je d d.length).map (mn d l)).length=(je d d.length).length:=List.length_map ..;rw[q5s,List.getD_eq_getElem?_getD,List.getElem?_append_right (by omega),e,Nat.add_sub_cancel_left,←List.getD_eq_getElem?_getD];exact em hi
theorem qur{d:List Int}{l:List ae}(h:Good d l):Bx l (List.replicate l.length 0) (gu l):=by
 have e:∀i,i<l.length→(gu l).getD i 0=(l.getD i ae.z).2.2.1:=fun i hi=>em hi
 refine⟨List.length_replicate ..,db _ _,fun i _=>by rw[qrh];omega,fun i hi=> ?_,fun i hi=>by rw[e i hi];exact Int.le_refl _⟩;rw[qrh,e i hi];exact(h.sh i hi).m0
section
variable {d : List Int} {l : List ae}
theorem pA{i:Nat}(hi:i<(ck d l).length):ci (prog l (ck d l)).2.1 i=((ck d l).getD i qn0).1:=qcn hi _ _
theorem pR{i:Nat}(hi:i<(ck d l).length):gb (prog l (ck d l)).2.2.1 i=((ck d l).getD i qn0).2.1:=qcn hi _ _
theorem pB{i:Nat}(hi:i<(ck d l).length):gz (prog l (ck d l)).2.2.2.1 i=((ck d l).getD i qn0).2.2:=qcn hi _ _
theorem pC{j:Nat}(hj:j<l.length):gz (prog l (ck d l)).1 j=((l.getD j ae.z).2.1,1,()):=em hj
theorem pm:(prog l (ck d l)).2.1.length=(ck d l).length:=List.length_map ..
theorem pmB:(prog l (ck d l)).2.2.2.1.length=(ck d l).length:=List.length_map ..
theorem pn:(prog l (ck d l)).1.length=l.length:=db _ _
theorem qxg{n:Nat}{q:Nat→Bool}{j:Nat}(hj:j<n):fv ((qip n q).getD j ab.z)=if q j=true then 1 else 0:=by
 rw[jkl hj];cases q j
 ·exact fv0
 ·exact fv1
theorem j6z{c:List Int}(hc:Cnt l c)(hv:Cvr d l c){i:Nat}(hi:i<(ck d l).length):
  (((ck d l).getD i qn0).2.1=1∧d4 l.length (fun j=>fv (((ck d l).getD i qn0).1.getD j ab.z)*(c.getD j 0:Rat))≤fv ((ck d l).getD i qn0).2.2)∨
  (((ck d l).getD i qn0).2.1=2∧fv ((ck d l).getD i qn0).2.2≤d4 l.length (fun j=>fv (((ck d l).getD i qn0).1.getD j ab.z)*(c.getD j 0:Rat))):=by
 by_cases hp:i<(je d d.length).length
 ·rw[q2w hp];have ht:=(q4r d (l5 0 hp)).1;generalize(je d d.length).getD i 0=t at ht;refine .inr ⟨rfl,?_⟩;have e:d4 l.length (fun j=>fv ((mn d l t).1.getD j ab.z)*(c.getD j 0:Rat))=(za l c t:Rat):=by
   rw[jso];exact cp fun j hj=>by
    rw[show(mn d l t).1.getD j ab.z=(qip l.length fun j=>decide (qd7 l j t)).getD j ab.z from rfl,qxg hj];by_cases e:qd7 l j t
    ·rw[if_pos e,if_pos (decide_eq_true e)]
    ·rw[if_neg e,if_neg (fun h=>e (of_decide_eq_true h))]
  rw[e,show fv (mn d l t).2.2=(d.getD t 0:Rat)from nk _];exact Rat.intCast_le_intCast.2 (hv t ht)
 ·obtain⟨k,rfl⟩:∃k,i=(je d d.length).length+k:=⟨i-(je d d.length).length,by omega⟩;have hk:k<l.length:=by rw[th]at hi;omega
  rw[q2v hk];refine .inl ⟨rfl,?_⟩;have e:d4 l.length (fun j=>fv ((qnz l.length (gu l) k).1.getD j ab.z)*(c.getD j 0:Rat))=(c.getD k 0:Rat):=by
   rw[qhp (n:=l.length) (k:=k) hk fun j hj hne=>by
    rw[show(qnz l.length (gu l) k).1.getD j ab.z=(qip l.length fun j=>decide (j=k)).getD j ab.z from rfl,qxg hj,if_neg (fun h=>hne (of_decide_eq_true h))]
    grind]
   rw[show(qnz l.length (gu l) k).1.getD k ab.z=(qip l.length fun j=>decide (j=k)).getD k ab.z from rfl,qxg hk,if_pos (decide_eq_true rfl)]
   grind
  have e2:(gu l).getD k 0=(l.getD k ae.z).2.2.1:=em hk;rw[e,show fv (qnz l.length (gu l) k).2.2=((gu l).getD k 0:Rat)from nk _,e2];exact Rat.intCast_le_intCast.2 (hc.2 k hk).2
theorem j6i{c:List Int}(hc:Cnt l c)(hv:Cvr d l c){y most:List ab}(hy:YOK (prog l (ck d l)) y most)(hm:∀j,j<l.length→NF (gz most j)):
  NF (qc (prog l (ck d l)).2.2.2.1 y).1∧fv (qc (prog l (ck d l)).2.2.2.1 y).1=d4 (ck d l).length (fun i=>fv (gz (prog l (ck d l)).2.2.2.1 i)*fv (gz y i))∧d4 (ck d l).length (fun i=>fv (gz (prog l (ck d l)).2.2.2.1 i)*fv (gz y i))≤d4 l.length (fun j=>fv (gz most j)*(c.getD j 0:Rat)):=by
 have h1:=qum hy.dot;have h2:=qkp.1 hy.nf;have h3:=hy.len;rw[pmB]at h1;refine⟨h1.2.2.2.1,h1.2.2.2.2,?_⟩;have h4:=jq4 (p:=prog l (ck d l)) (y:=y) (x:=fun j=>(c.getD j 0:Rat)) (fun j=>fv (gz most j)) (fun j hj=>ju7 (hy.ud j hj) (hm j (by rw[pn]at hj;exact hj))) (fun j hj=>Rat.intCast_nonneg.2 (hc.2 j (by rw[pn]at hj;exact hj)).1) (fun i hi=>by
  have hi' :i<(ck d l).length:=by rw[pm]at hi;exact hi
  have hn:=h2 i (by omega);have hs:=hy.sg i hi;unfold q1c at hs;rw[pR hi']at hs⊢;rw[pA hi',pB hi',pn];rcases j6z hc hv hi' with⟨g1,g2⟩|⟨g1,g2⟩
  ·exact .inl ⟨g1,g2,Rat.not_lt.1 fun h=>hs.2 ⟨g1,(qq5 hn).2 h⟩⟩
  ·exact .inr ⟨g1,g2,Rat.not_lt.1 fun h=>hs.1 ⟨g1,(wg hn).2 h⟩⟩)
 rw[pm,pn]at h4;exact h4
theorem j1v(h:Good d l){c:List Int}(hc:Cnt l c)(hv:Cvr d l c){s:de}(hs:CK (prog l (ck d l)) s):s.1=1∧YOK (prog l (ck d l)) s.2.2.1 (prog l (ck d l)).1∧s.2.2.2.2.1=(qc (prog l (ck d l)).2.2.2.1 s.2.2.1).1:=by
 rcases hs with h1|⟨-,h2,h3⟩|⟨-,⟨h2,h3⟩,h4,h5⟩
 ·exact h1
 ·rw[pn]at h2;have ez:∀j,j<l.length→gz (List.replicate l.length (0,1,())) j=(0,1,()):=fun j hj=>by
   show(List.replicate l.length ((0,1,()):ab)).getD j ab.z=_;rw[qw8,em hj]
  obtain⟨g1,g2,g3⟩:=j6i hc hv h2 fun j hj=>by rw[ez j hj];exact nf0
  rw[qdc (n:=l.length) fun j hj=>by rw[ez j hj,fv0];grind]at g3;have g4:=(qq5 g1).1 h3;rw[g2]at g4;exact absurd g4 (Rat.not_lt.2 g3)
 ·have g1:=qum h4;have g2:=(wg g1.2.2.2.1).1 h5;have g3:=qkp.1 g1.2.2.1;rw[g1.2.2.2.2]at g2;rw[pn]at h2 h3 g2;have g4:0≤d4 l.length (fun i=>fv ((prog l (ck d l)).1.getD i ab.z)*fv (s.2.2.2.1.getD i ab.z)):=jic fun i hi=>by
   have e:(prog l (ck d l)).1.getD i ab.z=((l.getD i ae.z).2.1,1,()):=pC hi;rw[e,nk];exact Rat.mul_nonneg (Rat.intCast_nonneg.2 (h.sh i hi).p0) (Rat.not_lt.1 fun h=>h3 i hi ((wg (g3 i (by omega))).2 h))
  exact absurd g2 (Rat.not_lt.2 g4)
theorem jqe(h:Good d l){c:List Int}(hc:Cnt l c)(hv:Cvr d l c){y:List ab}(hy:YOK (prog l (ck d l)) y (prog l (ck d l)).1):NF (qc (prog l (ck d l)).2.2.2.1 y).1∧fv (qc (prog l (ck d l)).2.2.2.1 y).1≤(fw l c:Rat):=by
 obtain⟨g1,g2,g3⟩:=j6i hc hv hy fun j hj=>by
  have:=h.sh j hj;rw[pC hj];exact nu (by have:=this.p0;omega) (by have:=this.p1;omega)
 refine⟨g1,?_⟩;rw[g2];refine Rat.le_trans g3 ?_;unfold fw;rw[q2y,cp fun j hj=>by rw[pC hj,nk,←Rat.intCast_mul]];exact Rat.le_refl
def qcp(d:List Int)(y:List ab)(k:Nat):List ab:=be k fun t=>if d.getD t 0=0 then(0,1,())else y.getD (je d t).length ab.z
theorem q4t{y:List ab}{t:Nat}(h:Good d l)(ht:t<d.length):yv (qcp d y d.length) t=if 0<d.getD t 0 then fv (y.getD (je d t).length ab.z)else 0:=by
 have e:(qcp d y d.length).getD t ab.z=if d.getD t 0=0 then(0,1,())else y.getD (je d t).length ab.z:=em ht
 have h1:=(h.dn t ht).1;show fv ((qcp d y d.length).getD t ab.z)=_;rw[e];by_cases c:d.getD t 0=0
 ·rw[if_pos c,if_neg (by omega),fv0]
 ·rw[if_neg c,if_pos (by omega)]
theorem jpg(h:Good d l){y:List ab}(hy:YOK (prog l (ck d l)) y (prog l (ck d l)).1):YG d.length (qcp d y d.length):=by
 have hl:=hy.len;have hn:=qkp.1 hy.nf;rw[pm]at hl;refine⟨db _ _,fun t ht=> ?_⟩;have e:(qcp d y d.length).getD t ab.z=if d.getD t 0=0 then(0,1,())else y.getD (je d t).length ab.z:=em ht
 rw[q4t h ht,e];by_cases c:0<d.getD t 0
 ·obtain⟨h1,h2⟩:=jcl c ht;have h3:(je d t).length<(ck d l).length:=by rw[th];omega
  have h4:=hn (je d t).length (by omega);have hs:=hy.sg (je d t).length (by rw[pm];exact h3);unfold q1c at hs;rw[pR h3,q2w h1]at hs;rw[if_neg (by omega),if_pos c];exact⟨h4,Rat.not_lt.1 fun h=>hs.1 ⟨rfl,(wg h4).2 h⟩⟩
 ·have:=(h.dn t ht).1;rw[if_pos (by omega),if_neg c];exact⟨nf0,Rat.le_refl⟩
theorem jnj(h:Good d l){y:List ab}(hy:YOK (prog l (ck d l)) y (prog l (ck d l)).1):fv (qc (prog l (ck d l)).2.2.2.1 y).1≤qrj d l (List.replicate l.length 0) (gu l) (qcp d y d.length):=by
 have h1:=qum hy.dot;have hl:=hy.len;have hn:=qkp.1 hy.nf;rw[pm]at hl;rw[h1.2.2.2.2,pmB,th,qz3];unfold qrj;have e1:d4 (je d d.length).length (fun i=>fv ((prog l (ck d l)).2.2.2.1.getD i ab.z)*fv (y.getD i ab.z))=d4 d.length (fun t=>(d.getD t 0:Rat)*yv (qcp d y d.length) t):=by
  have e2:d4 (je d d.length).length (fun i=>fv ((prog l (ck d l)).2.2.2.1.getD i ab.z)*fv (y.getD i ab.z))=d4 (je d d.length).length (fun i=>(fun t i=>(d.getD t 0:Rat)*fv (y.getD i ab.z)) ((je d d.length).getD i 0) i):=cp fun i hi=>by
   have e3:(prog l (ck d l)).2.2.2.1.getD i ab.z=((ck d l).getD i qn0).2.2:=pB (by rw[th];omega);rw[e3,q2w hi,show fv (mn d l ((je d d.length).getD i 0)).2.2=(d.getD ((je d d.length).getD i 0) 0:Rat)from nk _]
  rw[e2,jcm d (fun t i=>(d.getD t 0:Rat)*fv (y.getD i ab.z))];exact cp fun t ht=>by
   rw[q4t h ht];by_cases c:0<d.getD t 0
   ·rw[if_pos c,if_pos c]
   ·rw[if_neg c,if_neg c];grind
 have e4:d4 l.length (fun i=>fv ((prog l (ck d l)).2.2.2.1.getD ((je d d.length).length+i) ab.z)*fv (y.getD ((je d d.length).length+i) ab.z))≤d4 l.length (fun i=>prR d.length l (qcp d y d.length) i*(nvI d.length l (List.replicate l.length 0) (gu l) (qcp d y d.length) i:Rat)):=qz2 fun i hi=>by
  have hi2:(je d d.length).length+i<(ck d l).length:=by rw[th];omega
  have e3:(prog l (ck d l)).2.2.2.1.getD ((je d d.length).length+i) ab.z=((ck d l).getD ((je d d.length).length+i) qn0).2.2:=pB hi2;rw[e3,q2v hi,show fv (qnz l.length (gu l) i).2.2=((gu l).getD i 0:Rat)from nk _];have hs:=hy.sg _ (by rw[pm];exact hi2);unfold q1c at hs;rw[pR hi2,q2v hi]at hs;have hw:fv (y.getD ((je d d.length).length+i) ab.z)≤0:=Rat.not_lt.1 fun h=>hs.2 ⟨rfl,(qq5 (hn _ (by omega))).2 h⟩
  have hu:=ju7 (hy.ud i (by rw[pn];exact hi)) (by have:=h.sh i hi;rw[pC hi];exact nu (by have:=this.p0;omega) (by have:=this.p1;omega));rw[pC hi,nk,pm,th,qz3]at hu;have u1:d4 (je d d.length).length (fun k=>fv (gz (ci (prog l (ck d l)).2.1 k) i)*fv (gz y k))=d4 d.length (fun t=>if qd7 l i t then yv (qcp d y d.length) t else 0):=by
   have e2:d4 (je d d.length).length (fun k=>fv (gz (ci (prog l (ck d l)).2.1 k) i)*fv (gz y k))=d4 (je d d.length).length (fun k=>(fun t k=>(if qd7 l i t then 1 else 0)*fv (y.getD k ab.z)) ((je d d.length).getD k 0) k):=cp fun k hk=>by
    rw[pA (by rw[th];omega),q2w hk];show fv ((qip l.length fun j=>decide (qd7 l j ((je d d.length).getD k 0))).getD i ab.z)*fv (y.getD k ab.z)=(if qd7 l i ((je d d.length).getD k 0)then(1:Rat)else 0)*fv (y.getD k ab.z);rw[qxg hi];by_cases e:qd7 l i ((je d d.length).getD k 0)
    ·rw[if_pos e,if_pos (decide_eq_true e)]
    ·rw[if_neg e,if_neg (fun h=>e (of_decide_eq_true h))]
   rw[e2,jcm d (fun t k=>(if qd7 l i t then 1 else 0)*fv (y.getD k ab.z))];exact cp fun t ht=>by
    rw[q4t h ht];by_cases c:0<d.getD t 0
    ·rw[if_pos c,if_pos c];by_cases e:qd7 l i t
     ·rw[if_pos e,if_pos e];grind
     ·rw[if_neg e,if_neg e];grind
    ·rw[if_neg c,if_neg c];by_cases e:qd7 l i t
     ·rw[if_pos e]
     ·rw[if_neg e]
  have u2:d4 l.length (fun k=>fv (gz (ci (prog l (ck d l)).2.1 ((je d d.length).length+k)) i)*fv (gz y ((je d d.length).length+k)))=fv (y.getD ((je d d.length).length+i) ab.z):=by
   have u3:∀k,k<l.length→fv (gz (ci (prog l (ck d l)).2.1 ((je d d.length).length+k)) i)=if i=k then 1 else 0:=fun k hk=>by
    rw[pA (by rw[th];omega),q2v hk];show fv ((qip l.length fun j=>decide (j=k)).getD i ab.z)=_;rw[qxg hi];by_cases e:i=k
    ·rw[if_pos e,if_pos (decide_eq_true e)]
    ·rw[if_neg e,if_neg (fun h=>e (of_decide_eq_true h))]
   rw[qhp (n:=l.length) (k:=i) hi fun k hk hne=>by rw[u3 k hk,if_neg (fun h=>hne h.symm)];grind,u3 i hi,if_pos rfl];show 1*fv (y.getD ((je d d.length).length+i) ab.z)=_
   grind
  rw[u1,u2]at hu;have hpr:fv (y.getD ((je d d.length).length+i) ab.z)≤prR d.length l (qcp d y d.length) i:=by
   unfold prR
   grind
  have hm:(0:Rat)≤((gu l).getD i 0:Rat):=by
   have e2:(gu l).getD i 0=(l.getD i ae.z).2.2.1:=em hi;rw[e2];exact Rat.intCast_nonneg.2 (h.sh i hi).m0
  unfold nvI;by_cases c:prR d.length l (qcp d y d.length) i<0
  ·rw[if_pos c,Rat.mul_comm];exact Rat.mul_le_mul_of_nonneg_right hpr hm
  ·rw[if_neg c,qrh];have:=Rat.mul_le_mul_of_nonneg_left hw hm;show _≤_*((0:Int):Rat)
   grind
 rw[e1]
 grind
end
end Go.Proofs.YteljgpepodpebaaGreat
