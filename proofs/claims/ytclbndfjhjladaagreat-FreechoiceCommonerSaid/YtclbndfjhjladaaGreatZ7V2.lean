/-
  Sorting rows of numbers: the heap; reversing.
-/
import Derived.Test.YtclbndfjhjladaaGreatZ7V1
set_option linter.all false
namespace Go.Proofs.YtclbndfjhjladaaGreat
open Go.K Go.M
theorem jzk(hi first r ch:Int)(fn rn cn:Nat)(hf:first=(fn:Int))(hr:r=(rn:Int))(hc:ch=(cn:Int))(d:Rw)(hd:Sh d)(h1:fn+rn<d.length)(h2:fn+cn<d.length)(hl:d.length≤1000000):
  eu hi first r ch d=some (bif em (d.getD (fn+rn) []) (d.getD (fn+cn) [])then .inl (swL d (fn+rn) (fn+cn))else .inr d):=by
 subst hf hr hc;obtain⟨e1,e2⟩:=qkr hd (fn+rn) (fn+cn);have a1:(fn:Int)+(rn:Int)=((fn+rn:Nat):Int):=rfl;have a2:(fn:Int)+(cn:Int)=((fn+cn:Nat):Int):=rfl;unfold eu;simp only[ls,a1,a2,Int.toNat_natCast,e1,ao,e2,List.length_set];simp(disch:=omega)only[be,rs];cases em (d.getD (fn+rn) []) (d.getD (fn+cn) [])<;>rfl
theorem jzl(lo hi first:Nat)(d:Rw)(hd:Sh d)(hh:first+hi≤d.length)(hl:d.length≤1000000)(hlo:lo≤1000000):
  fv (lo:Int) (hi:Int) (first:Int) d=some (Sort.siftDown em hi first lo d.toArray).toList∧(Sort.siftDown em hi first lo d.toArray).toList.length=d.length∧Sh (Sort.siftDown em hi first lo d.toArray).toList:=by
 generalize hT:Sort.siftDown em hi first lo d.toArray=T
 have hloop:∃o,uv (hi:Int) (first:Int) ((lo:Int),d)=some o∧(lk o (fun e=>some e) (fun r=>some r)=some T.toList∧T.toList.length=d.length∧Sh T.toList):=by
  refine p6 (fun(st:Int×Rw)=>∃k:Nat,st.1=(k:Int)∧(k≤lo∨k<hi)∧st.2.length=d.length∧Sh st.2∧Sort.siftDown em hi first k st.2.toArray=T) (fun st=>((hi:Int)-st.1).toNat) (fun(o:Rw⊕Rw)=>lk o (fun e=>some e) (fun r=>some r)=some T.toList∧T.toList.length=d.length∧Sh T.toList) _ ⟨lo,rfl, .inl (Nat.le_refl _),rfl,hd,hT⟩ (by show((hi:Int)-(lo:Int)).toNat<many;unfold many;omega) ?_;rintro⟨_,c⟩ ⟨k,rfl,hk,hcl,hc,hT⟩;have hcl:c.length=d.length:=hcl;have hc:Sh c:=hc;have hT:Sort.siftDown em hi first k c.toArray=T:=hT
  rw[Sort.siftDown]at hT;by_cases h1:2*k+1≥hi
  ·rw[dif_pos h1]at hT;subst hT;refine⟨.done c,?_,rfl,hcl,hc⟩;have h1' :(hi:Int)≤2*(k:Int)+1:=by omega
   simp only[bt];simp(disch:=omega)only[be,rs]
  ·rw[dif_neg h1]at hT;have h1' :¬(hi:Int)≤2*(k:Int)+1:=by omega
   have e0:(2:Int)*(k:Int)+1=((2*k+1:Nat):Int):=by omega
   have e0' :((2*k+1:Nat):Int)+1=((2*k+2:Nat):Int):=by omega
   have e4:(first:Int)+((2*k+1:Nat):Int)=((first+(2*k+1):Nat):Int):=rfl;have e5:((first+(2*k+1):Nat):Int)+1=((first+(2*k+1)+1:Nat):Int):=rfl;simp only[nt]at hT;have t1:=jzk (hi:Int) (first:Int) (k:Int) ((2*k+1:Nat):Int) first k (2*k+1) rfl rfl rfl c hc (by omega) (by omega) (by omega)
   have hin1:bc .i64 (2*(k:Int))=true:=qwq (by omega) (by omega);have hin2:bc .i64 ((2*k+1:Nat):Int)=true:=qwq (by omega) (by omega);have hin3:bc .i64 ((2*k+2:Nat):Int)=true:=qwq (by omega) (by omega);by_cases h2:2*k+1+1<hi
   ·obtain⟨c1,c2⟩:=qkr hc (first+(2*k+1)) (first+(2*k+1)+1);have t2:=jzk (hi:Int) (first:Int) (k:Int) ((2*k+2:Nat):Int) first k (2*k+2) rfl rfl rfl c hc (by omega) (by omega) (by omega)
    have h2' :((2*k+2:Nat):Int)<(hi:Int):=by omega
    cases hlt:em (c.getD (first+(2*k+1)) []) (c.getD (first+(2*k+1)+1) [])with
    |true=>
     rw[hlt]at hT c2;rw[if_pos (by simp;omega)]at hT;cases hlt2:em (c.getD (first+k) []) (c.getD (first+(2*k+2)) [])with
     |false=>
      rw[hlt2]at hT t2;rw[if_pos (by rfl)]at hT;subst hT;refine⟨.ret c,?_,rfl,hcl,hc⟩;simp only[bt,e0,e0',hin1,hin2,hin3,be,e4,e5,Int.toNat_natCast,c1,ao,c2,t2];simp(disch:=omega)only[be,rs]
     |true=>
      rw[hlt2]at hT t2;rw[if_neg (by simp),dif_pos (by omega),og]at hT;refine⟨.next (((2*k+2:Nat):Int),swL c (first+k) (first+(2*k+2))),?_,⟨2*k+2,rfl, .inr (by omega),(qs _ _ _).trans hcl,qgo hc _ _,hT⟩,by show((hi:Int)-((2*k+2:Nat):Int)).toNat<((hi:Int)-(k:Int)).toNat;omega⟩;simp only[bt,e0,e0',hin1,hin2,hin3,be,e4,e5,Int.toNat_natCast,c1,ao,c2,t2];simp(disch:=omega)only[be,rs]
    |false=>
     rw[hlt]at hT c2;rw[if_neg (by simp)]at hT;cases hlt2:em (c.getD (first+k) []) (c.getD (first+(2*k+1)) [])with
     |false=>
      rw[hlt2]at hT t1;rw[if_pos (by rfl)]at hT;subst hT;refine⟨.ret c,?_,rfl,hcl,hc⟩;simp only[bt,e0,e0',hin1,hin2,hin3,be,e4,e5,Int.toNat_natCast,c1,ao,c2,t1];simp(disch:=omega)only[be,rs]
     |true=>
      rw[hlt2]at hT t1;rw[if_neg (by simp),og]at hT;refine⟨.next (((2*k+1:Nat):Int),swL c (first+k) (first+(2*k+1))),?_,⟨2*k+1,rfl, .inr (by omega),(qs _ _ _).trans hcl,qgo hc _ _,hT⟩,by show((hi:Int)-((2*k+1:Nat):Int)).toNat<((hi:Int)-(k:Int)).toNat;omega⟩;simp only[bt,e0,e0',hin1,hin2,hin3,be,e4,e5,Int.toNat_natCast,c1,ao,c2,t1];simp(disch:=omega)only[be,rs]
   ·rw[if_neg (by simp;omega)]at hT;have h2' :¬((2*k+2:Nat):Int)<(hi:Int):=by omega
    cases hlt2:em (c.getD (first+k) []) (c.getD (first+(2*k+1)) [])with
    |false=>
     rw[hlt2]at hT t1;rw[if_pos (by rfl)]at hT;subst hT;refine⟨.ret c,?_,rfl,hcl,hc⟩;simp only[bt,e0,e0',hin1,hin2,hin3,be,e4,e5,Int.toNat_natCast,ao,t1];simp(disch:=omega)only[be,rs]
    |true=>
     rw[hlt2]at hT t1;rw[if_neg (by simp),og]at hT;refine⟨.next (((2*k+1:Nat):Int),swL c (first+k) (first+(2*k+1))),?_,⟨2*k+1,rfl, .inr (by omega),(qs _ _ _).trans hcl,qgo hc _ _,hT⟩,by show((hi:Int)-((2*k+1:Nat):Int)).toNat<((hi:Int)-(k:Int)).toNat;omega⟩;simp only[bt,e0,e0',hin1,hin2,hin3,be,e4,e5,Int.toNat_natCast,ao,t1];simp(disch:=omega)only[be,rs]
 obtain⟨o,ho,h1,h2,h3⟩:=hloop;refine⟨?_,h2,h3⟩;unfold fv;rw[ho,ao];exact h1
theorem jb8(hi first:Nat)(lo9:Int):∀(k:Nat) (d:Rw),Sh d→first+hi≤d.length→d.length≤1000000→k≤1000000→∀m,k<m→
  q8c (fun a=>d7 (R:=LR (Int×Rw) Rw Rw) (first:Int) lo9 (hi:Int) a.1 a.2 (fun a' =>some (.next a')) (fun e=>some (.done e)) (fun r=>some (.ret r))) m ((k:Int)-1,d)=some (.inl (Sort.heapBuild em hi first k d.toArray).toList)∧
   (Sort.heapBuild em hi first k d.toArray).toList.length=d.length∧Sh (Sort.heapBuild em hi first k d.toArray).toList
 |0,d,hd,hh,hl,_,m,hm=>by
  obtain⟨m,rfl⟩:∃q,m=q+1:=⟨m-1,by omega⟩;refine⟨?_,rfl,hd⟩;rw[nu];have:decide ((0:Int)≤((0:Nat):Int)-1)=false:=by decide
  simp only[d7,this,cond_false,ao];rfl
 |k+1,d,hd,hh,hl,hk,m,hm=>by
  obtain⟨m,rfl⟩:∃q,m=q+1:=⟨m-1,by omega⟩;obtain⟨e1,e2,e3⟩:=jzl k hi first d hd hh hl (by omega)
  have ih:=jb8 hi first lo9 k (Sort.siftDown em hi first k d.toArray).toList e3 (by omega) (by omega) (by omega) m (by omega)
  rw[e2]at ih;refine⟨?_,ih.2⟩;rw[nu];have c1:((k+1:Nat):Int)-1=(k:Int):=by omega
  have c2:decide ((0:Int)≤(k:Int))=true:=decide_eq_true (by omega);simp only[d7,c1,c2,cond_true,e1,ao,e2,decide_true,be];rw[lz (by omega) (by omega)];exact ih.1
theorem jmh(first:Nat):∀(k:Nat) (d:Rw),Sh d→first+k≤d.length→d.length≤1000000→∀m,k<m→
  q8c (fun a=>cu (R:=LR (Int×Rw) Rw Rw) (first:Int) 0 a.1 a.2 (fun a' =>some (.next a')) (fun e=>some (.done e)) (fun r=>some (.ret r))) m ((k:Int)-1,d)=some (.inl (Sort.heapPop em first k d.toArray).toList)
 |0,d,hd,hh,hl,m,hm=>by
  obtain⟨m,rfl⟩:∃q,m=q+1:=⟨m-1,by omega⟩;rw[nu];have:decide ((0:Int)≤((0:Nat):Int)-1)=false:=by decide
  simp only[cu,this,cond_false,ao];rfl
 |k+1,d,hd,hh,hl,m,hm=>by
  obtain⟨m,rfl⟩:∃q,m=q+1:=⟨m-1,by omega⟩;have hs:=qs d first (first+k)
  obtain⟨e1,e2,e3⟩:=jzl 0 k first (swL d first (first+k)) (qgo hd _ _) (by omega) (by omega) (by omega)
  have ih:=jmh first k (Sort.siftDown em k first 0 (swL d first (first+k)).toArray).toList e3 (by omega) (by omega) m (by omega)
  rw[nu];have c1:((k+1:Nat):Int)-1=(k:Int):=by omega
  have c2:decide ((0:Int)≤(k:Int))=true:=decide_eq_true (by omega);have c3:(first:Int)+(k:Int)=((first+k:Nat):Int):=rfl;have c4:((0:Nat):Int)=0:=rfl;rw[c4]at e1;have hstep:cu (R:=LR (Int×Rw) Rw Rw) (first:Int) 0 (k:Int) d (fun a' =>some (.next a')) (fun e=>some (.done e)) (fun r=>some (.ret r))=some (.next ((k:Int)-1,(Sort.siftDown em k first 0 (swL d first (first+k)).toArray).toList)):=by
   simp only[cu,c2,cond_true,c3,Int.toNat_natCast,qne,e1,ao,e2,hs,List.length_set,decide_true,be];simp(disch:=omega)only[be,rs]
  rw[c1];refine(jlm hstep _).trans ?_;show lr (LR.next ((k:Int)-1,_)) _=_;rw[Sort.heapPop,og];exact ih
theorem j53(a b:Nat)(d:Rw)(hd:Sh d)(hab:a≤b)(hb:b≤d.length)(hl:d.length≤1000000):fo (a:Int) (b:Int) d=some (Sort.heapSort em d.toArray a b).toList:=by
 have c1:(b:Int)-(a:Int)=((b-a:Nat):Int):=by omega
 have c2:Int.tdiv (((b-a:Nat):Int)-1) 2=(((b-a-1)/2+1:Nat):Int)-1:=by
  rcases Nat.eq_zero_or_pos (b-a)with h|h
  ·rw[h];rfl
  ·have:((b-a:Nat):Int)-1=((b-a-1:Nat):Int):=by omega
   rw[this,Int.tdiv_eq_ediv_of_nonneg (by omega)];omega
 obtain⟨h1,h2,h3⟩:=jb8 (b-a) a 0 ((b-a-1)/2+1) d hd (by omega) hl (by omega) many (by unfold many;omega);have h4:=jmh a (b-a) (Sort.heapBuild em (b-a) a ((b-a-1)/2+1) d.toArray).toList h3 (by omega) (by omega) many (by unfold many;omega);unfold fo;rw[c1];have i1:bc .i64 ((b-a:Nat):Int)=true:=qwq (by omega) (by omega);have i2:bc .i64 (((b-a:Nat):Int)-1)=true:=qwq (by omega) (by omega);have i3:bc .i64 ((((b-a-1)/2+1:Nat):Int)-1)=true:=qwq (by omega) (by omega);rw[c2,i1,i2,i3];show bnd (ay _ _) _=_;unfold ay;rw[h1];show bnd (ay _ _) _=_;unfold ay;rw[h4];rfl
theorem jxo(a b:Nat)(d:Rw)(hd:Sh d)(hab:a<b)(hb:b≤d.length)(hl:d.length≤1000000):cr (a:Int) (b:Int) d=some (Sort.reverseRange d.toArray a b).toList:=by
 have hL:∃o,qg ((a:Int),((b-1:Nat):Int),d)=some o∧o= .inl (Sort.reverseRange d.toArray a b).toList:=by
  unfold Sort.reverseRange;generalize hT:Sort.reverseLoop a (b-1) d.toArray=T;refine p6 (fun(st:Int×Int×Rw)=>∃i j:Nat,st.1=(i:Int)∧st.2.1=(j:Int)∧(i<b∧j<b)∧st.2.2.length=d.length∧Sort.reverseLoop i j st.2.2.toArray=T) (fun st=>(st.2.1-st.1).toNat) (fun(o:Rw⊕Rw)=>o= .inl T.toList) _ ⟨a,b-1,rfl,rfl,⟨by omega,by omega⟩,rfl,hT⟩ (by show(((b-1:Nat):Int)-(a:Int)).toNat<many;unfold many;omega) ?_;rintro⟨_,_,c⟩ ⟨i,j,rfl,rfl,⟨hi,hj⟩,hcl,hT⟩;have hcl:c.length=d.length:=hcl;have hT:Sort.reverseLoop i j c.toArray=T:=hT;rw[Sort.reverseLoop]at hT;by_cases h:i<j
  ·rw[if_pos h,og]at hT;have e:(j:Int)-1=((j-1:Nat):Int):=by omega
   refine⟨.next (((i+1:Nat):Int),((j-1:Nat):Int),swL c i j),?_,⟨i+1,j-1,rfl,rfl,⟨by omega,by omega⟩,(qs _ _ _).trans hcl,hT⟩,by show(((j-1:Nat):Int)-((i+1:Nat):Int)).toNat<((j:Int)-(i:Int)).toNat;omega⟩;simp only[ff,e,Int.toNat_natCast,List.length_set,qne];simp(disch:=omega)only[be,rs];rw[ar]
  ·rw[if_neg h]at hT;refine⟨.done c,?_,by rw[←hT]⟩;simp(disch:=omega)only[be,ff,rs]
 obtain⟨_,ho,rfl⟩:=hL;have e:(b:Int)-1=((b-1:Nat):Int):=by omega
 unfold cr;rw[e,lz (by omega) (by omega),ho];rfl
end Go.Proofs.YtclbndfjhjladaaGreat
