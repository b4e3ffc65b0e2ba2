/-
  Freechoice: well-formed and sound nets: the program and the reference answer alike.
-/
import Derived.Test.YtclbndfjhjladaaGreatZ4RB
set_option linter.all false
namespace Go.Proofs.YtclbndfjhjladaaGreat
open Go.K Go.M
theorem jz9(n:ca)(h:n.2.1.length≤100)(h1:n.1≤100):(jz8 n).length≤1000:=by
 unfold jz8 qod;rw[List.length_map];have:=quk (s9 (edA n.1.toNat false n.2.1 n.2.1.length)) (n.1.toNat+n.2.1.length);omega
theorem jwv{n:ca}{rp rt:Rw}{a:Int}{P Q:Bool}{l:List Clu}(hP:fg rp n.1=some P)(hQ:fg rt (n.2.1.length:Int)=some Q)(hC:de n=some l)(hl:l.length≤1000):
  (bnd (bt rp n.1 n.2.1 n.2.2.1 n.2.2.2.1 rt a) fun r8=>some ((!r8.1),(0:Int)))=some (P&&Q&&decide (a=(l.length:Int)-1),0):=by
 have hC:de (n.1,n.2.1,n.2.2.1,n.2.2.2.1,())=some l:=hC;unfold bt cr j9 kb kc nk nm nn;cases P with
 |false=>simp(disch:=omega)only[hP,rs];rfl
 |true=>
  cases Q with
  |false=>simp(disch:=omega)only[hP,hQ,rs];rfl
  |true=>
   simp(disch:=omega)only[hP,hQ,hC,rs];cases decide (a=(l.length:Int)-1)<;>rfl
theorem q59{n:ca}(h:Small n)(hv:c6 n=true)(hf:jiq n)(hfr:qk2 n.2.1=true):∃o,cx n=some o∧qap n=some o:=by
 obtain⟨c1,c2⟩:=jmp hv h;obtain⟨p1,p2,p3⟩:=ur hv;have ht:=h.trans;unfold cx qap;rw[yu h,hv,jcd h,hfr,c1,c2];simp only[au,Bool.not_true,cond_false];cases hc:jwu n with
 |false=>exact⟨(false,0),rfl,rfl⟩
 |true=>
  have h0:0<n.2.1.length:=by
   unfold jwu at hc;simp only[Bool.and_eq_true,decide_eq_true_eq]at hc;exact hc.1
  rw[jto h hf,jlf h hf,ja5 h hf,q1z h hf];simp only[au,Bool.not_true,cond_false];by_cases eP:(q8a n).2=0
  ·rw[decide_eq_true eP];simp only[Bool.not_true,cond_false];by_cases eT:(jdc n).2=0
   ·rw[decide_eq_true eT];simp only[Bool.not_true,cond_false];have hlarge:va n=false:=by
     cases e:va n with
     |false=>rfl
     |true=>
      unfold q8a at eP;rw[hv,e]at eP;cases eP
    obtain⟨l1,l2⟩:=qkv hf hlarge;obtain⟨i1,i2⟩:=j5f h hv h0 (by omega) (by omega);obtain⟨a,b,r1,r2⟩:=ju4 (m:=mz n.1.toNat n.2.1.length (AP n)) (fun r hr=>by
     obtain⟨i,hi,rfl⟩:=List.mem_iff_getElem.1 hr;have hi' :i<n.1.toNat:=by rw[yh]at hi;exact hi
     have:=jfb (m:=n.2.1.length) (A:=AP n) hi';rw[List.getD_eq_getElem?_getD,List.getElem?_eq_getElem hi,Option.getD_some]at this;rw[this,bn];omega)
    rw[i1,i2];simp only[au];rw[r1,r2];simp only[au,decide_true,Bool.not_true,cond_false];by_cases eb:b=0
    ·rw[decide_eq_true eb];simp only[Bool.not_true,cond_false];obtain⟨k1,k2⟩:=jpv hv h;have okP:=j1c (n:=n);have okT:=j1d (n:=n);have eN:((n.1.toNat:Nat):Int)=n.1:=Int.toNat_of_nonneg (by omega);have v1:=jbe (rows:=(q8a n).1) (by have:=okP.len;omega) (fun r hr=>by rw[(okP.row r hr).1];omega) n.1.toNat (by omega);have v2:=jbe (rows:=(jdc n).1) (by have:=okT.len;omega) (fun r hr=>by rw[(okT.row r hr).1];omega) n.2.1.length (by omega);have w1:=q6h (rows:=(q8a n).1) (by have:=okP.len;omega) n.1.toNat (by omega) fun r hr=>(okP.row r hr).1
     have w2:=q6h (rows:=(jdc n).1) (by have:=okT.len;omega) n.2.1.length (by omega) fun r hr=>(okT.row r hr).1
     rw[eN]at v1 w1;have hcl:=jz9 n (by omega) (by omega);refine⟨_,jwv v1 v2 k1 hcl,?_⟩;rw[w1,w2,k2];simp only[au];cases jms (q8a n).1 n.1.toNat with
     |false=>rfl
     |true=>
      cases jms (jdc n).1 n.2.1.length with
      |false=>rfl
      |true=>
       simp(disch:=omega)only[rs];rfl
    ·rw[decide_eq_false eb];exact⟨(false,b),rfl,rfl⟩
   ·rw[decide_eq_false eT];exact⟨(false,(jdc n).2),rfl,rfl⟩
  ·rw[decide_eq_false eP];exact⟨(false,(q8a n).2),rfl,rfl⟩
theorem jmk{n:ca}(hv:c6 n=true)(hl:n.2.1.length<60):c6 (qcf n)=true:=by
 unfold c6 at hv⊢;simp only[Bool.and_eq_true,decide_eq_true_eq,Bool.not_eq_true',List.any_eq_false]at hv⊢;obtain⟨⟨⟨⟨⟨h1,h2⟩,h3⟩,h4⟩,h5⟩,h6⟩:=hv;refine⟨⟨⟨⟨⟨h1,h2⟩,?_⟩,fun t ht=> ?_⟩,h5⟩,h6⟩
 ·show(n.2.1++[qex n]).length≤60;rw[List.length_append];simp only[List.length_cons,List.length_nil];omega
 ·rcases List.mem_append.1 (show t∈n.2.1++[qex n]from ht)with ht|ht
  ·exact h4 t ht
  ·rw[List.mem_singleton.1 ht];unfold q7i;show¬(!eqS ⟨#[]⟩ ⟨#[]⟩&&_|| !qqx n.1 [n.2.2.2.1]|| !qqx n.1 [n.2.2.1])=true;rw[q15,q15,decide_eq_true h5.1,decide_eq_true h5.2,decide_eq_true h6.1,decide_eq_true h6.2];rw[show eqS ⟨#[]⟩ ⟨#[]⟩=true from BEq.rfl];simp
theorem jpt{n:ca}(hfr:qk2 n.2.1=true)(hs:∀t∈n.2.1,n.2.2.2.1∉t.2.1):qk2 (qcf n).2.1=true:=by
 show qk2 (n.2.1++[qex n])=true;unfold qk2 at hfr⊢;simp only[List.all_eq_true,List.mem_range]at hfr⊢;intro i hi k hk;rw[List.length_append]at hi;simp only[List.length_cons,List.length_nil]at hi;have e1:∀j,j<n.2.1.length→(n.2.1++[qex n]).getD j af.z=n.2.1.getD j af.z:=fun j hj=>by
  rw[List.getD_eq_getElem?_getD,List.getD_eq_getElem?_getD,List.getElem?_append_left hj]
 by_cases hin:i<n.2.1.length
 ·rw[e1 i hin,e1 k (by omega)];exact hfr i hin k hk
 ·have e2:(n.2.1++[qex n]).getD i af.z=qex n:=by
   obtain rfl:i=n.2.1.length:=by omega
   rw[List.getD_eq_getElem?_getD,List.getElem?_append_right (Nat.le_refl _),Nat.sub_self];rfl
  rw[e2,e1 k (by omega)];have hk' :k<n.2.1.length:=by omega
  have:=qlm.2 (hs _ (ao af.z hk'));unfold frB jpw;show(!([n.2.2.2.1].any (cn (n.2.1.getD k af.z).2.1))||_)=true;rw[List.any_cons,List.any_nil,this];rfl
def qf1(x:Int)(rows:Rw):Bool:=rows.all fun r=>cn r x
section
variable {rows : Rw} (hl : rows.length ≤ 1000000) (hr : ∀ r ∈ rows, r.length ≤ 1000) (n : ca)
include hl hr
theorem jzl:d4 rows n=some (!qf1 n.2.2.1 rows):=by
 have hL:o8 rows n (rows.length:Int) 0=some (jfr (fun i=>(i:Int)) (qba (fun r:List Int=> !cn r n.2.2.1) rows)):=by
  refine ua rows [] (fun r:List Int=> !cn r n.2.2.1) (fun i=>(i:Int)) (by omega) (fun k hk=> ?_) ?_
  ·have e:=hr _ (ao [] hk);simp(disch:=omega)only[d7,xl,om (rows.getD k []) (by omega),rs];rw[ag];cases cn (rows.getD k []) n.2.2.1<;>rfl
  ·simp(disch:=omega)only[d7,rs]
 unfold d4 js qf1;rw[hL,au,qis,au,qir,List.all_eq_not_any_not,Bool.not_not]
theorem jvd(a c:Int)(ts:List af):qkg rows a ts n.2.2.1 c 0=some (bif qf1 n.2.2.1 rows then .inl ()else .inr (false,0)):=by
 have hL:qkg rows a ts n.2.2.1 c 0=some (bif (List.range rows.length).all (fun i=>cn (rows.getD i []) n.2.2.1)then .inl ()else .inr (false,0)):=by
  refine fj (fun q=>(q:Int)) rows.length (aw (by omega)) _ () (false,0) (fun i hi hp=> ?_) (fun i hi hp=> ?_) ?_
  ·have e:=hr _ (ao [] hi);simp(disch:=omega)only[tp,rx (rows.getD i []) (by omega),hp,ag,rs]
  ·have e:=hr _ (ao [] hi);simp(disch:=omega)only[tp,rx (rows.getD i []) (by omega),hp,rs]
  ·simp(disch:=omega)only[tp,rs]
 have he:(List.range rows.length).all (fun i=>cn (rows.getD i []) n.2.2.1)=qf1 n.2.2.1 rows:=by
  unfold qf1;rw[Bool.eq_iff_iff,List.all_eq_true,List.all_eq_true];constructor
  ·intro h r hr;obtain⟨i,hi,rfl⟩:=List.mem_iff_getElem.1 hr;have:=h i (List.mem_range.2 hi);rwa[List.getD_eq_getElem?_getD,List.getElem?_eq_getElem hi,Option.getD_some]at this
  ·intro h i hi;exact h _ (ao [] (List.mem_range.1 hi))
 rw[hL,he]
end
theorem jq6{n:ca}(h:Small n)(h1:n.2.1.length≤12∨60≤n.2.1.length)(h2:n.1≤12∨40<n.1):∃o,jz n=some o∧qjj n=some o:=by
 obtain⟨w,hw1,hw2,hw3⟩:=jl8 h;obtain⟨hc1,hc2⟩:=jv3 h hw1 hw2;unfold jz qjj;rw[hc1,hc2,jcd h,j5g h];simp only[au];by_cases e:(qna n w).2=0
 ·rw[decide_eq_true e];simp only[Bool.not_true,cond_false];cases hfr:qk2 n.2.1 with
  |false=>exact⟨(false,19),rfl,rfl⟩
  |true=>
   simp only[Bool.not_true,cond_false];obtain⟨hv,rfl,hlt⟩:c6 n=true∧w=true∧n.2.1.length<60:=by
    unfold qna at e;cases hv:c6 n with
    |false=>rw[hv]at e;cases e
    |true=>
     cases w with
     |false=>rw[hv]at e;cases e
     |true=>
      by_cases h60:(60:Int)≤(n.2.1.length:Int)
      ·rw[hv,decide_eq_true h60]at e;cases e
      ·exact⟨rfl,rfl,by omega⟩
   have hco:(qna n true).1=qcf n:=by
    unfold qna;rw[hv,decide_eq_false (by omega)];rfl
   obtain⟨_,hwf⟩:=hw3.1 rfl;obtain⟨p1,p2,p3⟩:=ur hv;have hsm:=ji5 h hlt;have hvc:=jmk hv hlt;have hlc:(qcf n).2.1.length=n.2.1.length+1:=List.length_append;have hfc:jiq (qcf n):= .inl ⟨show n.1≤12 by omega,by rw[hlc];omega⟩;obtain⟨o,o1,o2⟩:=q59 hsm hvc hfc (jpt hfr fun t ht=>(hwf.2.1 t ht).2);have eN:n.1=((n.1.toNat:Nat):Int):=(Int.toNat_of_nonneg (by omega)).symm;have m1:=jl7 (qcf n) n.1.toNat eN (by omega) hsm hvc (by omega);have m2:=jgv (qcf n) n.1.toNat eN (by omega) hsm hvc (by omega);rw[hco,o1,o2];simp only[au];by_cases e2:o.2=0
   ·rw[decide_eq_true e2];simp only[Bool.not_true,cond_false];cases e3:o.1 with
    |false=>exact⟨(false,o.2),rfl,rfl⟩
    |true=>
     simp only[Bool.not_true,cond_false];rw[m1,m2];simp only[au,decide_true,Bool.not_true,cond_false];have hN:n.1.toNat≤12:=by omega
     have hfl:=jb1 (qcf n) n.1.toNat (2 ^ n.1.toNat-1);have hpw:2 ^ n.1.toNat≤2 ^ 12:=Nat.pow_le_pow_right (by omega) hN;have hp1:1≤2 ^ n.1.toNat:=Nat.one_le_two_pow;rw[show 2 ^ n.1.toNat-1+1=2 ^ n.1.toNat by omega]at hfl;have hl:(srt (ic (qcf n) n.1.toNat)).length≤1000000:=by
      rw[jtc];unfold ic;rw[List.length_map];omega
     have hr:∀r∈srt (ic (qcf n) n.1.toNat),r.length≤1000:=fun r hr=>by
      have hm:=(qa8 _).mem_iff.1 hr;unfold ic at hm;obtain⟨k,_,rfl⟩:=List.mem_map.1 hm;have:=qdx n.1.toNat k;omega
     rw[jzl hl hr n,jvd hl hr n];simp only[au];cases qf1 n.2.2.1 (srt (ic (qcf n) n.1.toNat))with
     |false=>exact⟨(false,0),rfl,rfl⟩
     |true=>exact⟨(true,0),rfl,rfl⟩
   ·rw[decide_eq_false e2];exact⟨(false,o.2),rfl,rfl⟩
 ·rw[decide_eq_false e];exact⟨(false,(qna n w).2),rfl,rfl⟩
theorem jvy{n:ca}(h:Small n)(h1:n.2.1.length≤12∨60≤n.2.1.length)(h2:n.1≤12∨40<n.1):∃o,cx n=some o∧j7 n=some o:=by
 cases hv:c6 n with
 |false=>
  refine⟨(false,1),?_,?_⟩
  ·unfold cx;rw[yu h,hv];rfl
  ·unfold j7;rw[oq h,hv];rfl
 |true=>
  obtain⟨p1,p2,p3⟩:=ur hv;cases hfr:qk2 n.2.1 with
  |false=>
   refine⟨(false,19),?_,?_⟩
   ·unfold cx;rw[yu h,hv,jcd h,hfr];rfl
   ·unfold j7;rw[oq h,hv,j5g h,hfr];rfl
  |true=>
   obtain⟨o,o1,o2⟩:=q59 h hv (by unfold jiq;omega) hfr;refine⟨o,o1,?_⟩;unfold j7;rw[oq h,hv,j5g h,hfr,o2];rfl
theorem qup(n:ca):th n=some true:=by
 unfold th;rw[jpf];obtain⟨b,hb,hg⟩:=jxc n;simp only[au,Bool.not_true,cond_false];rw[hb,au];cases b with
 |true=>rfl
 |false=>
  obtain⟨hs,h1,h2⟩:=hg rfl;obtain⟨o,a1,a2⟩:=jvy hs h1 h2;obtain⟨s,b1,b2⟩:=jq6 hs h1 h2;rw[cond_false,a1,a2,b1,b2];simp only[au,beq_self_eq_true,cond_true,decide_true]
end Go.Proofs.YtclbndfjhjladaaGreat
