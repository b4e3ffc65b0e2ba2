/-
  Freechoice: what the program's Sound answers.
-/
import Derived.Test.YtclbndfjhjladaaGreatZ5PE6
import Derived.Test.YtclbndfjhjladaaGreatZ5XB
set_option linter.all false
namespace Go.Proofs.YtclbndfjhjladaaGreat
open Go.K Go.M
theorem jr0{n:bp}(h:Small n){w:Bool}(h1:ll n=some w):k8 n=some (qs7 n w):=by
 have ht:=h.trans;unfold k8 qs7;rw[qfr h,h1];cases ck n with
 |false=>rfl
 |true=>
  cases w with
  |false=>rfl
  |true=>
   simp only[ax,Bool.not_true,cond_false];by_cases e:(60:Int)≤(n.2.1.length:Int)
   ·rw[decide_eq_true e];rfl
   ·rw[decide_eq_false e];simp only[cond_false];rw[jlw h];simp(disch:=omega)only[rs];rfl
theorem jhb{n:bp}(hv:ck n=true)(h:Small n):dp n=some (jos n):=by
 obtain⟨p1,p2,p3,_,_,hB⟩:=qcs hv h;have e:((n.1.toNat:Nat):Int)=n.1:=Int.toNat_of_nonneg (by omega);have h1:=jee (M:=n.1.toNat) (ts:=n.2.1) (by omega) (by omega) hB n.2.2.1 n.2.2.2.1;rw[e]at h1;exact h1
theorem jei{n:bp}(hv:ck n=true)(h:Small n):mq n=some (jeh n):=by
 obtain⟨p1,p2,p3,_,_,hB⟩:=qcs hv h;obtain⟨n1,ts,a,b,_⟩:=n;have p1:1≤n1:=p1;have p2:n1≤40:=p2;have p3:ts.length≤60:=p3;have e:((n1.toNat:Nat):Int)=n1:=Int.toNat_of_nonneg (by omega);have hB:InB n1.toNat ts:=hB;have hc:=que (edA n1.toNat true ts ts.length);unfold jeh;unfold mq;by_cases h0:ts.length=0
 ·simp(disch:=omega)only[h0,rs];rfl
 ·obtain⟨p,hp,h1⟩:=jsq (M:=n1.toNat) (by omega) (by omega) hB;obtain⟨_,h2,rfl⟩:=jsr (N:=n1.toNat+ts.length) (by omega) (by omega) hc n1 hp;rw[decide_eq_false (show¬(ts.length:Int)=0 by omega),cond_false,qsc (n1,ts,a,b,()) ⟨by show 0≤n1;omega,by show n1≤100;omega⟩ (by show ts.length≤100;omega),ax];rw[e]at h1;show bnd (kf ts (ts.length:Int) (0,n1,pL (n1.toNat+ts.length) id)) _=_;rw[h1,ax,lj];show bnd (p9 ((pL (n1.toNat+ts.length) p).length:Int) (0,n1,pL (n1.toNat+ts.length) p)) _=_;rw[qb2,h2,ax,decide_eq_true (show 0<ts.length by omega),Bool.true_and];cases(List.range (n1.toNat+ts.length)).all fun z=>decide (yn (edA n1.toNat true ts ts.length) z=yn (edA n1.toNat true ts ts.length) 0)<;>rfl
theorem j2z{n:bp}(h:Small n)(hv:ck n=true)(h0:0<n.2.1.length)(hT:n.2.1.length≤20)(hN:n.1≤20):wz n=some (0,rh n.1.toNat n.2.1.length (AP n)):=by
 obtain⟨p1,_,_⟩:=u4 hv;have e1:=jtf h n.1.toNat (by omega) hT n.1 n.2.2.1 n.2.2.2.1;unfold wz;simp(disch:=omega)only[qfr h,hv,e1,rs]
theorem q5n(n:bp)(t p:Nat):FC.inc (Ip n) (Op n) t p=AP n p t:=by
 unfold FC.inc AP jb1;congr 1
 ·by_cases h:Op n t p
  ·rw[if_pos h,if_pos (f9.2 h)]
  ·rw[if_neg h,if_neg (by rw[qdl.2 h];simp)]
 ·by_cases h:Ip n t p
  ·rw[if_pos h,if_pos (f9.2 h)]
  ·rw[if_neg h,if_neg (by rw[qdl.2 h];simp)]
theorem jt0{n:bp}{R C:Nat}(hC:pr C (AP n) R≤1073741824):FC.Rk R C (Ip n) (Op n) (cz R (AP n) C).piv.length:=by
 obtain⟨σ,X⟩:=q6z hC C (Nat.le_refl C);refine⟨qs (cz R (AP n) C),σ,dD (rw' (AP n) σ) (qs (cz R (AP n) C)) (cz R (AP n) C).piv.length,fun s j=>cM (rw' (AP n) σ) (qs (cz R (AP n) C)) (cz R (AP n) C).piv.length s j,X.d0,X.qinj (Nat.le_refl C),fun a ha=>X.inj.1 a (by have:=X.le;omega),fun p t hp ht=> ?_,fun x hx=> ?_⟩
 ·obtain⟨i,hi,rfl⟩:=X.sur p hp;have he:eM (rw' (AP n) σ) (qs (cz R (AP n) C)) (cz R (AP n) C).piv.length i t=0:=by
   by_cases hk:i<(cz R (AP n) C).piv.length
   ·exact jbk hk t
   ·rw[←X.lo i t (by omega) hi ht];exact X.zero i t (by omega) hi ht ht
  unfold eM at he;rw[q5n];have e1:rw' (AP n) σ i t=AP n (σ i) t:=rfl;rw[e1]at he;rw[Int.mul_comm];have e2:af (fun s=>FC.inc (Ip n) (Op n) (qs (cz R (AP n) C) s) (σ i)*cM (rw' (AP n) σ) (qs (cz R (AP n) C)) (cz R (AP n) C).piv.length s t) (cz R (AP n) C).piv.length=af (fun s=>rw' (AP n) σ i (qs (cz R (AP n) C) s)*cM (rw' (AP n) σ) (qs (cz R (AP n) C)) (cz R (AP n) C).piv.length s t) (cz R (AP n) C).piv.length:=aj fun s hs=>by rw[q5n];rfl
  rw[e2];omega
 ·refine qxu X.d0 fun u hu=> ?_
  rw[←hx u hu];exact aj fun s hs=>by rw[q5n];rfl
theorem j11{n:bp}{R C:Nat}(hR:R≤20)(hC:C≤20)(h1:1≤R):∃a b,x5 (rh R C (AP n))=some (a,b)∧(b=0→∃r:Nat,a=(r:Int)∧FC.Rk R C (Ip n) (Op n) r):=by
 have hm:rh R C (AP n)=T2 R C (AP n):=rfl;have hval:=jms (rh R C (AP n)) fun r hr=>by
  obtain⟨i,hi,rfl⟩:=List.mem_iff_getElem.1 hr;have hi' :i<R:=by rw[qb8]at hi;exact hi
  have:=qws (m:=C) (A:=AP n) hi';rw[List.getD_eq_getElem?_getD,List.getElem?_eq_getElem hi,Option.getD_some]at this;rw[this,cq];omega
 have hA:∀i j,-1048576≤AP n i j∧AP n i j≤1048576:=fun i j=>by
  have:=jb2 (n.2.1.getD j ae.z) (i:Int);unfold AP;omega
 cases hv:jdn (rh R C (AP n))with
 |false=>
  refine⟨0,1,?_,fun h=>by cases h⟩;unfold x5;rw[hval,hv];rfl
 |true=>
  rw[hv]at hval;have c1:1≤C:=by
   unfold jdn at hv;simp only[Bool.and_eq_true,decide_eq_true_eq]at hv;have h3:=hv.1.1.2;rw[qws (by omega),cq]at h3;exact h3
  have hs:=jmz (R:=R) (C:=C) (by omega) (by omega) hA;have h0:0<R:=by omega
  rw[hm]at hval⊢;cases hsm:jdf R C (AP n)with
  |false=>
   rw[hsm]at hs;refine⟨0,6,?_,fun h=>by cases h⟩;unfold x5;simp(disch:=omega)only[hval,Bool.not_true,hs,Bool.not_false,rs]
  |true=>
   rw[hsm]at hs;have hred:=jm7 (R:=R) (C:=C) (by omega) (by omega) c1 (Nat.le_refl C) (AP n);refine⟨((qbb (cz R (AP n) C).piv).length:Int),0,?_,fun _=>⟨(cz R (AP n) C).piv.length,by rw[qxq],jt0 (of_decide_eq_true hsm)⟩⟩;unfold x5;simp(disch:=omega)only[hval,Bool.not_true,hs,tw,qd3 h0,cq,hred,rs]
structure Cond (n : bp) (r : Nat) : Prop where
 p0 : (ql9 n).2 = 0
 t0 : (qop n).2 = 0
 rk : FC.Rk n.1.toNat n.2.1.length (Ip n) (Op n) r
theorem jpj{n:bp}(h:Small n)(hv:ck n=true)(hf:qt4 n)(hfr:qm1 n.2.1=true):∃o,fg n=some o∧(o.2≠0→o.1=false)∧
  (o.1=true→jeh n=true)∧(jeh n=true→o.2=0→∃r,Cond n r∧(o.1=true↔(qoz (ql9 n).1 n.1.toNat=true∧qoz (qop n).1 n.2.1.length=true)∧r+1=(jos n).length)):=by
 have c1:=jei hv h;obtain⟨p1,p2,p3⟩:=u4 hv;have ht:=h.trans;unfold fg;rw[qfr h,hv,jfc h,hfr,c1];simp only[ax,Bool.not_true,cond_false];cases hc:jeh n with
 |false=>exact⟨(false,0),rfl,fun _=>rfl,fun h=>(by cases h),fun h=>(by cases h)⟩
 |true=>
  have h0:0<n.2.1.length:=by
   unfold jeh at hc;simp only[Bool.and_eq_true,decide_eq_true_eq]at hc;exact hc.1
  rw[jll h hf,q4e h hf];simp only[ax,Bool.not_true,cond_false];by_cases eP:(ql9 n).2=0
  ·rw[decide_eq_true eP];simp only[Bool.not_true,cond_false];by_cases eT:(qop n).2=0
   ·rw[decide_eq_true eT];simp only[Bool.not_true,cond_false];have hlarge:vm n=false:=by
     cases e:vm n with
     |false=>rfl
     |true=>
      unfold ql9 at eP;rw[hv,e]at eP;cases eP
    obtain⟨l1,l2⟩:=qja hf hlarge;have i1:=j2z h hv h0 (by omega) (by omega);obtain⟨a,b,r1,hrk⟩:=j11 (n:=n) (R:=n.1.toNat) (C:=n.2.1.length) (by omega) (by omega) (by omega);rw[i1];simp only[ax];rw[r1];simp only[ax,decide_true,Bool.not_true,cond_false];by_cases eb:b=0
    ·rw[decide_eq_true eb];simp only[Bool.not_true,cond_false];obtain⟨r,ha,hr⟩:=hrk eb;have k1:=jhb hv h;have okP:=jtv (n:=n);have okT:=jtw (n:=n);have eN:((n.1.toNat:Nat):Int)=n.1:=Int.toNat_of_nonneg (by omega);have v1:=q4r (rows:=(ql9 n).1) (by have:=okP.len;omega) (fun r hr=>by rw[(okP.row r hr).1];omega) n.1.toNat (by omega);have v2:=q4r (rows:=(qop n).1) (by have:=okT.len;omega) (fun r hr=>by rw[(okT.row r hr).1];omega) n.2.1.length (by omega);rw[eN]at v1;have hcl:=jso n (by omega) (by omega);refine⟨_,jox v1 v2 k1 hcl,fun h=>absurd rfl h,fun _=>trivial,fun _ _=>⟨r,⟨eP,eT,hr⟩,?_⟩⟩;dsimp only;rw[Bool.and_eq_true,Bool.and_eq_true,decide_eq_true_iff,ha];refine and_congr Iff.rfl ?_;omega
    ·rw[decide_eq_false eb];exact⟨(false,b),rfl,fun _=>rfl,fun h=>(by cases h),fun _ h=>absurd h eb⟩
   ·rw[decide_eq_false eT];exact⟨(false,(qop n).2),rfl,fun _=>rfl,fun h=>(by cases h),fun _ h=>absurd h eT⟩
  ·rw[decide_eq_false eP];exact⟨(false,(ql9 n).2),rfl,fun _=>rfl,fun h=>(by cases h),fun _ h=>absurd h eP⟩
end Go.Proofs.YtclbndfjhjladaaGreat
