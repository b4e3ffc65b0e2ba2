/-
  Sorting rows of numbers: the partitions, partial insertion.
-/
import Derived.Test.YtclbndfjhjladaaGreatZ7V2
set_option linter.all false
namespace Go.Proofs.YtclbndfjhjladaaGreat
open Go.K Go.M
theorem jhb(p:List Int→Bool)(d:Array (List Int))(j:Nat):∀(n i:Nat),j+1-i=n→i≤Sort.scanUp p d j i∧(Sort.scanUp p d j i≤i∨Sort.scanUp p d j i≤j+1):=by
 intro n
 induction n with
 |zero=>
  intro i h;rw[Sort.scanUp,if_neg (by simp;omega)];omega
 |succ n ih=>
  intro i h;rw[Sort.scanUp];split
  ·have:=ih (i+1) (by omega);omega
  ·omega
theorem qw6(p:List Int→Bool)(d:Array (List Int))(i:Nat):∀j,Sort.scanDown p d i j≤j
 |0=>Nat.le_refl 0
 |j+1=>by
  rw[Sort.scanDown];split
  ·have:=qw6 p d i j;omega
  ·exact Nat.le_refl _
theorem q6y{Rr:Type}{step:Int→Option (LR Int Int Rr)}(p:List Int→Bool)(d:Rw)(j:Nat)(hs:∀i:Nat,step (i:Int)=some (bif decide (i≤j)&&p (d.getD i [])then .next ((i+1:Nat):Int)else .done (i:Int)))(i:Nat)(hj:j≤1000000):
  ay step (i:Int)=some (.inl (Sort.scanUp p d.toArray j i:Int)):=by
 suffices H:∀n i,j+1-i=n→∀m,n<m→q8c step m (i:Int)=some (.inl (Sort.scanUp p d.toArray j i:Int))from H _ i rfl many (by unfold many;omega)
 intro n
 induction n with
 |zero=>
  intro i h m hm;obtain⟨m,rfl⟩:∃q,m=q+1:=⟨m-1,by omega⟩;rw[nu,hs,Sort.scanUp,if_neg (by simp;omega),decide_eq_false (by omega)];rfl
 |succ n ih=>
  intro i h m hm;obtain⟨m,rfl⟩:∃q,m=q+1:=⟨m-1,by omega⟩;rw[nu,hs,Sort.scanUp,nt,decide_eq_true (show i≤j by omega)];cases hp:p (d.getD i [])with
  |true=>
   rw[if_pos (by simp)];exact ih (i+1) (by omega) m (by omega)
  |false=>
   rw[if_neg (by simp)];rfl
theorem q9l{Rr:Type}{step:Int→Option (LR Int Int Rr)}(p:List Int→Bool)(d:Rw)(i:Nat)(hi:1≤i)(hs:∀j:Nat,j<d.length→step (j:Int)=some (bif decide (i≤j)&&p (d.getD j [])then .next ((j:Int)-1)else .done (j:Int))):∀(j:Nat),j<d.length→∀m,j<m→
  q8c step m (j:Int)=some (.inl (Sort.scanDown p d.toArray i j:Int))
 |0,hj,m,hm=>by
  obtain⟨m,rfl⟩:∃q,m=q+1:=⟨m-1,by omega⟩;rw[nu,hs 0 hj,decide_eq_false (show¬i≤0 by omega)];rfl
 |j+1,hj,m,hm=>by
  obtain⟨m,rfl⟩:∃q,m=q+1:=⟨m-1,by omega⟩;rw[nu,hs (j+1) hj,Sort.scanDown,nt];by_cases h:i≤j+1
  ·rw[decide_eq_true h];cases hp:p (d.getD (j+1) [])with
   |true=>
    rw[if_pos (by simp)];have e:((j+1:Nat):Int)-1=(j:Int):=by omega
    simp only[Bool.and_self,cond_true,e];exact q9l p d i hi hs j (by omega) m (by omega)
   |false=>
    rw[if_neg (by simp)];rfl
  ·rw[decide_eq_false h,if_neg (by simp)];rfl
theorem qvi{Rr:Type}{step:Int→Option (LR Int Int Rr)}(p:List Int→Bool)(d:Rw)(i:Nat)(hi:1≤i)(hs:∀j:Nat,j<d.length→step (j:Int)=some (bif decide (i≤j)&&p (d.getD j [])then .next ((j:Int)-1)else .done (j:Int)))(j:Nat)(hj:j<d.length)(hl:d.length≤1000000):
 ay step (j:Int)=some (.inl (Sort.scanDown p d.toArray i j:Int)):=q9l p d i hi hs j hj many (by unfold many;omega)
section
variable (a : Nat) (d : Rw) (hd : Sh d) (ha : a < d.length) (hl : d.length ≤ 1000000)
include hd ha hl
theorem zd6(j i:Nat)(hj:j<d.length):s9 (a:Int) (j:Int) d (i:Int)=some (.inl (Sort.scanUp (fun x=>em x d.toArray[a]!) d.toArray j i:Int)):=by
 rw[nt];refine q6y (fun x=>em x (d.getD a [])) d j (fun i=> ?_) i (by omega);obtain⟨e1,e2⟩:=qkr hd i a;by_cases h:i≤j
 ·rw[decide_eq_true h,Bool.true_and,←e2];simp only[f5,Int.toNat_natCast,e1,ao];simp(disch:=omega)only[be,rs];rw[ar];cases decide (cV (d.getD i []) (d.getD a [])<0)<;>rfl
 ·rw[decide_eq_false h];simp(disch:=omega)only[be,f5,rs];rfl
theorem zd7(j i:Nat)(hj:j<d.length):tc (a:Int) (j:Int) d (i:Int)=some (.inl (Sort.scanUp (fun x=>em x d.toArray[a]!) d.toArray j i:Int)):=by
 rw[nt];refine q6y (fun x=>em x (d.getD a [])) d j (fun i=> ?_) i (by omega);obtain⟨e1,e2⟩:=qkr hd i a;by_cases h:i≤j
 ·rw[decide_eq_true h,Bool.true_and,←e2];simp only[f8,Int.toNat_natCast,e1,ao];simp(disch:=omega)only[be,rs];rw[ar];cases decide (cV (d.getD i []) (d.getD a [])<0)<;>rfl
 ·rw[decide_eq_false h];simp(disch:=omega)only[be,f8,rs];rfl
theorem zd4(i j:Nat)(hi:1≤i)(hj:j<d.length):ta (a:Int) (i:Int) d (j:Int)=some (.inl (Sort.scanDown (fun x=> !em x d.toArray[a]!) d.toArray i j:Int)):=by
 rw[nt];refine qvi (fun x=> !em x (d.getD a [])) d i hi (fun j hj=> ?_) j hj hl;obtain⟨e1,e2⟩:=qkr hd j a;by_cases h:i≤j
 ·rw[decide_eq_true h,Bool.true_and,←e2];simp only[f6,Int.toNat_natCast,e1,ao];simp(disch:=omega)only[be,rs];cases decide (cV (d.getD j []) (d.getD a [])<0)<;>rfl
 ·rw[decide_eq_false h];simp(disch:=omega)only[be,f6,rs];rfl
theorem zd5(i j:Nat)(hi:1≤i)(hj:j<d.length):td (a:Int) (i:Int) d (j:Int)=some (.inl (Sort.scanDown (fun x=> !em x d.toArray[a]!) d.toArray i j:Int)):=by
 rw[nt];refine qvi (fun x=> !em x (d.getD a [])) d i hi (fun j hj=> ?_) j hj hl;obtain⟨e1,e2⟩:=qkr hd j a;by_cases h:i≤j
 ·rw[decide_eq_true h,Bool.true_and,←e2];simp only[f9,Int.toNat_natCast,e1,ao];simp(disch:=omega)only[be,rs];cases decide (cV (d.getD j []) (d.getD a [])<0)<;>rfl
 ·rw[decide_eq_false h];simp(disch:=omega)only[be,f9,rs];rfl
theorem zd3(j i:Nat)(hj:j<d.length):o4 (a:Int) (j:Int) d (i:Int)=some (.inl (Sort.scanUp (fun x=> !em d.toArray[a]! x) d.toArray j i:Int)):=by
 rw[nt];refine q6y (fun x=> !em (d.getD a []) x) d j (fun i=> ?_) i (by omega);obtain⟨e1,e2⟩:=qkr hd a i;by_cases h:i≤j
 ·rw[decide_eq_true h,Bool.true_and,←e2];simp only[d9,Int.toNat_natCast,e1,ao];simp(disch:=omega)only[be,rs];rw[ar];cases decide (cV (d.getD a []) (d.getD i [])<0)<;>rfl
 ·rw[decide_eq_false h];simp(disch:=omega)only[be,d9,rs];rfl
theorem zd2(i j:Nat)(hi:1≤i)(hj:j<d.length):o5 (a:Int) (i:Int) d (j:Int)=some (.inl (Sort.scanDown (fun x=>em d.toArray[a]! x) d.toArray i j:Int)):=by
 rw[nt];refine qvi (fun x=>em (d.getD a []) x) d i hi (fun j hj=> ?_) j hj hl;obtain⟨e1,e2⟩:=qkr hd a j;by_cases h:i≤j
 ·rw[decide_eq_true h,Bool.true_and,←e2];simp only[ea,Int.toNat_natCast,e1,ao];simp(disch:=omega)only[be,rs];cases decide (cV (d.getD a []) (d.getD j [])<0)<;>rfl
 ·rw[decide_eq_false h];simp(disch:=omega)only[be,ea,rs];rfl
theorem j6l(i j:Nat)(hi:1≤i)(hj:j<d.length):lq (a:Int) ((i:Int),(j:Int),d)=some (.inl (((Sort.partLoop em a i j d.toArray).1:Int),(Sort.partLoop em a i j d.toArray).2.toList))∧
  (Sort.partLoop em a i j d.toArray).1<d.length∧(Sort.partLoop em a i j d.toArray).2.toList.length=d.length∧Sh (Sort.partLoop em a i j d.toArray).2.toList:=by
 generalize hT:Sort.partLoop em a i j d.toArray=T;have hloop:∃o,lq (a:Int) ((i:Int),(j:Int),d)=some o∧(o= .inl ((T.1:Int),T.2.toList)∧T.1<d.length∧T.2.toList.length=d.length∧Sh T.2.toList):=by
  refine p6 (fun(st:Int×Int×Rw)=>∃i j:Nat,st.1=(i:Int)∧st.2.1=(j:Int)∧1≤i∧j<d.length∧st.2.2.length=d.length∧Sh st.2.2∧Sort.partLoop em a i j st.2.2.toArray=T) (fun st=>(st.2.1+1-st.1).toNat) (fun(o:(Int×Rw)⊕(Int×Bool×Rw))=>o= .inl ((T.1:Int),T.2.toList)∧T.1<d.length∧T.2.toList.length=d.length∧Sh T.2.toList) _ ⟨i,j,rfl,rfl,hi,hj,rfl,hd,hT⟩ (by show((j:Int)+1-(i:Int)).toNat<many;unfold many;omega) ?_;rintro⟨_,_,c⟩ ⟨i,j,rfl,rfl,hi,hj,hcl,hc,hT⟩;have hcl:c.length=d.length:=hcl;have hc:Sh c:=hc;have hT:Sort.partLoop em a i j c.toArray=T:=hT;have u:=zd7 a c hc (by omega) (by omega) j i (by omega);have hu:=jhb (fun x=>em x c.toArray[a]!) c.toArray j _ i rfl;rw[Sort.partLoop]at hT;generalize Sort.scanUp (fun x=>em x c.toArray[a]!) c.toArray j i=i2 at u hu hT;have v:=zd5 a c hc (by omega) (by omega) i2 j (by omega) (by omega);have hv:=qw6 (fun x=> !em x c.toArray[a]!) c.toArray i2 j;generalize Sort.scanDown (fun x=> !em x c.toArray[a]!) c.toArray i2 j=j2 at v hv hT;by_cases h:i2>j2
  ·rw[if_pos h]at hT;subst hT;refine⟨.done ((j2:Int),c),?_,rfl,by show j2<d.length;omega,hcl,hc⟩;simp only[gb,u,ao,i6,v];simp(disch:=omega)only[be,rs]
  ·rw[if_neg h,dif_pos (by omega),og]at hT;have e:(j2:Int)-1=((j2-1:Nat):Int):=by omega
   refine⟨.next (((i2+1:Nat):Int),((j2-1:Nat):Int),swL c i2 j2),?_,⟨i2+1,j2-1,rfl,rfl,by omega,by omega,(qs _ _ _).trans hcl,qgo hc _ _,hT⟩,by show(((j2-1:Nat):Int)+1-((i2+1:Nat):Int)).toNat<((j:Int)+1-(i:Int)).toNat;omega⟩;simp only[gb,u,ao,i6,v,e,Int.toNat_natCast,List.length_set,qne];simp(disch:=omega)only[be,rs];rw[ar]
 obtain⟨o,ho,rfl,h⟩:=hloop;exact⟨ho,h⟩
theorem j6g(i j:Nat)(hi:1≤i)(hj:j<d.length)(hij:i≤d.length):iy (a:Int) ((i:Int),(j:Int),d)=some (.inl (((Sort.partEqLoop em a i j d.toArray).1:Int),(Sort.partEqLoop em a i j d.toArray).2.toList)):=by
 generalize hT:Sort.partEqLoop em a i j d.toArray=T;have hloop:∃o,iy (a:Int) ((i:Int),(j:Int),d)=some o∧o= .inl ((T.1:Int),T.2.toList):=by
  refine p6 (fun(st:Int×Int×Rw)=>∃i j:Nat,st.1=(i:Int)∧st.2.1=(j:Int)∧1≤i∧j<d.length∧i≤d.length∧st.2.2.length=d.length∧Sh st.2.2∧Sort.partEqLoop em a i j st.2.2.toArray=T) (fun st=>(st.2.1+1-st.1).toNat) (fun(o:(Int×Rw)⊕(Int×Rw))=>o= .inl ((T.1:Int),T.2.toList)) _ ⟨i,j,rfl,rfl,hi,hj,hij,rfl,hd,hT⟩ (by show((j:Int)+1-(i:Int)).toNat<many;unfold many;omega) ?_;rintro⟨_,_,c⟩ ⟨i,j,rfl,rfl,hi,hj,hij,hcl,hc,hT⟩;have hcl:c.length=d.length:=hcl;have hc:Sh c:=hc;have hT:Sort.partEqLoop em a i j c.toArray=T:=hT;have u:=zd3 a c hc (by omega) (by omega) j i (by omega);have hu:=jhb (fun x=> !em c.toArray[a]! x) c.toArray j _ i rfl;rw[Sort.partEqLoop]at hT;generalize Sort.scanUp (fun x=> !em c.toArray[a]! x) c.toArray j i=i2 at u hu hT;have v:=zd2 a c hc (by omega) (by omega) i2 j (by omega) (by omega);have hv:=qw6 (fun x=>em c.toArray[a]! x) c.toArray i2 j;generalize Sort.scanDown (fun x=>em c.toArray[a]! x) c.toArray i2 j=j2 at v hv hT;by_cases h:i2>j2
  ·rw[if_pos h]at hT;subst hT;refine⟨.done ((i2:Int),c),?_,rfl⟩;simp only[eb,u,ao,i6,v];simp(disch:=omega)only[be,rs]
  ·rw[if_neg h,dif_pos (by omega),og]at hT;have e:(j2:Int)-1=((j2-1:Nat):Int):=by omega
   refine⟨.next (((i2+1:Nat):Int),((j2-1:Nat):Int),swL c i2 j2),?_,⟨i2+1,j2-1,rfl,rfl,by omega,by omega,by omega,(qs _ _ _).trans hcl,qgo hc _ _,hT⟩,by show(((j2-1:Nat):Int)+1-((i2+1:Nat):Int)).toNat<((j:Int)+1-(i:Int)).toNat;omega⟩;simp only[eb,u,ao,i6,v,e,Int.toNat_natCast,List.length_set,qne];simp(disch:=omega)only[be,rs];rw[ar]
 obtain⟨o,ho,rfl⟩:=hloop;exact ho
theorem zhj(b pivot:Nat)(hab:a<b)(hb:b≤d.length)(hp:pivot<b):ir (a:Int) (b:Int) (pivot:Int) d=some (((Sort.partition em d.toArray a b pivot).1:Int),(Sort.partition em d.toArray a b pivot).2.1,(Sort.partition em d.toArray a b pivot).2.2.toList):=by
 have hsl:=qs d a pivot;have hsh:=qgo hd a pivot;have u:=zd6 a (swL d a pivot) hsh (by omega) (by omega) (b-1) (a+1) (by omega);have hu:=jhb (fun x=>em x (swL d a pivot).toArray[a]!) (swL d a pivot).toArray (b-1) _ (a+1) rfl;unfold Sort.partition;rw[og];simp only;generalize Sort.scanUp (fun x=>em x (swL d a pivot).toArray[a]!) (swL d a pivot).toArray (b-1) (a+1)=i2 at u hu;have v:=zd4 a (swL d a pivot) hsh (by omega) (by omega) i2 (b-1) (by omega) (by omega);have hv:=qw6 (fun x=> !em x (swL d a pivot).toArray[a]!) (swL d a pivot).toArray i2 (b-1);generalize Sort.scanDown (fun x=> !em x (swL d a pivot).toArray[a]!) (swL d a pivot).toArray i2 (b-1)=j2 at v hv;have e0:(b:Int)-1=((b-1:Nat):Int):=by omega
 have e1:(a:Int)+1=((a+1:Nat):Int):=rfl;unfold ir;simp only[e0,e1,Int.toNat_natCast,List.length_set,qne,u,ao,i6,v,hsl];by_cases h:i2>j2
 ·rw[if_pos h,og];simp(disch:=omega)only[be,rs]
 ·rw[if_neg h,og];have e2:(j2:Int)-1=((j2-1:Nat):Int):=by omega
  have e3:(i2:Int)+1=((i2+1:Nat):Int):=rfl;have hsl2:=qs (swL d a pivot) i2 j2;obtain⟨w,w1,w2,w3⟩:=j6l a (swL (swL d a pivot) i2 j2) (qgo hsh _ _) (by omega) (by omega) (i2+1) (j2-1) (by omega) (by omega);generalize Sort.partLoop em a (i2+1) (j2-1) (swL (swL d a pivot) i2 j2).toArray=T at w w1 w2 w3;obtain⟨T1,T2⟩:=T;have w2:T2.toList.length=(swL (swL d a pivot) i2 j2).length:=w2;have w1:T1<(swL (swL d a pivot) i2 j2).length:=w1;have esw:Sort.swp T2 T1 a=(swL T2.toList T1 a).toArray:=by
   rw[←og]
  simp only[e2,e3,w,ao,i6,Int.toNat_natCast,qne,esw];simp(disch:=omega)only[be,rs]
theorem zhe(b pivot:Nat)(hab:a<b)(hb:b≤d.length)(hp:pivot<b):aw (a:Int) (b:Int) (pivot:Int) d=some (((Sort.partitionEqual em d.toArray a b pivot).1:Int),(Sort.partitionEqual em d.toArray a b pivot).2.toList):=by
 have hsl:=qs d a pivot;have hsh:=qgo hd a pivot;have w:=j6g a (swL d a pivot) hsh (by omega) (by omega) (a+1) (b-1) (by omega) (by omega) (by omega);unfold Sort.partitionEqual;rw[og];have e0:(b:Int)-1=((b-1:Nat):Int):=by omega
 have e1:(a:Int)+1=((a+1:Nat):Int):=rfl;unfold aw;simp only[e0,e1,Int.toNat_natCast,List.length_set,qne,w,ao,i6];simp(disch:=omega)only[be,rs]
end
end Go.Proofs.YtclbndfjhjladaaGreat
