/-
  Sorting rows of numbers: the partitions, partial insertion.
-/
import Derived.Test.YtclbndfjhjladaaGreatZ6V2
set_option linter.all false
namespace Go.Proofs.YtclbndfjhjladaaGreat
open Go.K Go.M
theorem jd9(p:List Int→Bool)(d:Array (List Int))(j:Nat):∀(n i:Nat),j+1-i=n→i≤Sort.scanUp p d j i∧(Sort.scanUp p d j i≤i∨Sort.scanUp p d j i≤j+1):=by
 intro n
 induction n with
 |zero=>
  intro i h;rw[Sort.scanUp,if_neg (by simp;omega)];omega
 |succ n ih=>
  intro i h;rw[Sort.scanUp];split
  ·have:=ih (i+1) (by omega);omega
  ·omega
theorem qtb(p:List Int→Bool)(d:Array (List Int))(i:Nat):∀j,Sort.scanDown p d i j≤j
 |0=>Nat.le_refl 0
 |j+1=>by
  rw[Sort.scanDown];split
  ·have:=qtb p d i j;omega
  ·exact Nat.le_refl _
theorem q3v{Rr:Type}{step:Int→Option (LR Int Int Rr)}(p:List Int→Bool)(d:Rw)(j:Nat)(hs:∀i:Nat,step (i:Int)=some (bif decide (i≤j)&&p (d.getD i [])then .next ((i+1:Nat):Int)else .done (i:Int)))(i:Nat)(hj:j≤1000000):
  bv step (i:Int)=some (.inl (Sort.scanUp p d.toArray j i:Int)):=by
 suffices H:∀n i,j+1-i=n→∀m,n<m→q8v step m (i:Int)=some (.inl (Sort.scanUp p d.toArray j i:Int))from H _ i rfl many (by unfold many;omega)
 intro n
 induction n with
 |zero=>
  intro i h m hm;obtain⟨m,rfl⟩:∃q,m=q+1:=⟨m-1,by omega⟩;rw[pz,hs,Sort.scanUp,if_neg (by simp;omega),decide_eq_false (by omega)];rfl
 |succ n ih=>
  intro i h m hm;obtain⟨m,rfl⟩:∃q,m=q+1:=⟨m-1,by omega⟩;rw[pz,hs,Sort.scanUp,mt,decide_eq_true (show i≤j by omega)];cases hp:p (d.getD i [])with
  |true=>
   rw[if_pos (by simp)];exact ih (i+1) (by omega) m (by omega)
  |false=>
   rw[if_neg (by simp)];rfl
theorem q6b{Rr:Type}{step:Int→Option (LR Int Int Rr)}(p:List Int→Bool)(d:Rw)(i:Nat)(hi:1≤i)(hs:∀j:Nat,j<d.length→step (j:Int)=some (bif decide (i≤j)&&p (d.getD j [])then .next ((j:Int)-1)else .done (j:Int))):∀(j:Nat),j<d.length→∀m,j<m→
  q8v step m (j:Int)=some (.inl (Sort.scanDown p d.toArray i j:Int))
 |0,hj,m,hm=>by
  obtain⟨m,rfl⟩:∃q,m=q+1:=⟨m-1,by omega⟩;rw[pz,hs 0 hj,decide_eq_false (show¬i≤0 by omega)];rfl
 |j+1,hj,m,hm=>by
  obtain⟨m,rfl⟩:∃q,m=q+1:=⟨m-1,by omega⟩;rw[pz,hs (j+1) hj,Sort.scanDown,mt];by_cases h:i≤j+1
  ·rw[decide_eq_true h];cases hp:p (d.getD (j+1) [])with
   |true=>
    rw[if_pos (by simp)];have e:((j+1:Nat):Int)-1=(j:Int):=by omega
    simp only[Bool.and_self,cond_true,e];exact q6b p d i hi hs j (by omega) m (by omega)
   |false=>
    rw[if_neg (by simp)];rfl
  ·rw[decide_eq_false h,if_neg (by simp)];rfl
theorem qrz{Rr:Type}{step:Int→Option (LR Int Int Rr)}(p:List Int→Bool)(d:Rw)(i:Nat)(hi:1≤i)(hs:∀j:Nat,j<d.length→step (j:Int)=some (bif decide (i≤j)&&p (d.getD j [])then .next ((j:Int)-1)else .done (j:Int)))(j:Nat)(hj:j<d.length)(hl:d.length≤1000000):
 bv step (j:Int)=some (.inl (Sort.scanDown p d.toArray i j:Int)):=q6b p d i hi hs j hj many (by unfold many;omega)
section
variable (a : Nat) (d : Rw) (hd : Sh d) (ha : a < d.length) (hl : d.length ≤ 1000000)
include hd ha hl
theorem j9a(j i:Nat)(hj:j<d.length):q6 (a:Int) (j:Int) d (i:Int)=some (.inl (Sort.scanUp (fun x=>d5 x d.toArray[a]!) d.toArray j i:Int)):=by
 rw[mt];refine q3v (fun x=>d5 x (d.getD a [])) d j (fun i=> ?_) i (by omega);obtain⟨e1,e2⟩:=qib hd i a;by_cases h:i≤j
 ·rw[decide_eq_true h,Bool.true_and,←e2];simp only[gb,Int.toNat_natCast,e1,ag];simp(disch:=omega)only[b7,ba,aj,ai,ar,ax,bc,a8,am,a7,al,az,ak,a9,ao,aq,af,ae,ag,au,ay,Int.toNat_natCast,decide_true];rw[bq];cases decide (cV (d.getD i []) (d.getD a [])<0)<;>rfl
 ·rw[decide_eq_false h];simp(disch:=omega)only[b7,gb,ba,aj,ai,ar,ax,bc,a8,am,a7,al,az,ak,a9,ao,aq,af,ae,ag,au,ay,Int.toNat_natCast,decide_true];rfl
theorem j9b(j i:Nat)(hj:j<d.length):q8 (a:Int) (j:Int) d (i:Int)=some (.inl (Sort.scanUp (fun x=>d5 x d.toArray[a]!) d.toArray j i:Int)):=by
 rw[mt];refine q3v (fun x=>d5 x (d.getD a [])) d j (fun i=> ?_) i (by omega);obtain⟨e1,e2⟩:=qib hd i a;by_cases h:i≤j
 ·rw[decide_eq_true h,Bool.true_and,←e2];simp only[ge,Int.toNat_natCast,e1,ag];simp(disch:=omega)only[b7,ba,aj,ai,ar,ax,bc,a8,am,a7,al,az,ak,a9,ao,aq,af,ae,ag,au,ay,Int.toNat_natCast,decide_true];rw[bq];cases decide (cV (d.getD i []) (d.getD a [])<0)<;>rfl
 ·rw[decide_eq_false h];simp(disch:=omega)only[b7,ge,ba,aj,ai,ar,ax,bc,a8,am,a7,al,az,ak,a9,ao,aq,af,ae,ag,au,ay,Int.toNat_natCast,decide_true];rfl
theorem j88(i j:Nat)(hi:1≤i)(hj:j<d.length):q7 (a:Int) (i:Int) d (j:Int)=some (.inl (Sort.scanDown (fun x=> !d5 x d.toArray[a]!) d.toArray i j:Int)):=by
 rw[mt];refine qrz (fun x=> !d5 x (d.getD a [])) d i hi (fun j hj=> ?_) j hj hl;obtain⟨e1,e2⟩:=qib hd j a;by_cases h:i≤j
 ·rw[decide_eq_true h,Bool.true_and,←e2];simp only[gc,Int.toNat_natCast,e1,ag];simp(disch:=omega)only[b7,ba,aj,ai,ar,ax,bc,a8,am,a7,al,az,ak,a9,ao,aq,af,ae,ag,au,ay,Int.toNat_natCast,decide_true];cases decide (cV (d.getD j []) (d.getD a [])<0)<;>rfl
 ·rw[decide_eq_false h];simp(disch:=omega)only[b7,gc,ba,aj,ai,ar,ax,bc,a8,am,a7,al,az,ak,a9,ao,aq,af,ae,ag,au,ay,Int.toNat_natCast,decide_true];rfl
theorem j89(i j:Nat)(hi:1≤i)(hj:j<d.length):q9 (a:Int) (i:Int) d (j:Int)=some (.inl (Sort.scanDown (fun x=> !d5 x d.toArray[a]!) d.toArray i j:Int)):=by
 rw[mt];refine qrz (fun x=> !d5 x (d.getD a [])) d i hi (fun j hj=> ?_) j hj hl;obtain⟨e1,e2⟩:=qib hd j a;by_cases h:i≤j
 ·rw[decide_eq_true h,Bool.true_and,←e2];simp only[gf,Int.toNat_natCast,e1,ag];simp(disch:=omega)only[b7,ba,aj,ai,ar,ax,bc,a8,am,a7,al,az,ak,a9,ao,aq,af,ae,ag,au,ay,Int.toNat_natCast,decide_true];cases decide (cV (d.getD j []) (d.getD a [])<0)<;>rfl
 ·rw[decide_eq_false h];simp(disch:=omega)only[b7,gf,ba,aj,ai,ar,ax,bc,a8,am,a7,al,az,ak,a9,ao,aq,af,ae,ag,au,ay,Int.toNat_natCast,decide_true];rfl
theorem j86(j i:Nat)(hj:j<d.length):np (a:Int) (j:Int) d (i:Int)=some (.inl (Sort.scanUp (fun x=> !d5 d.toArray[a]! x) d.toArray j i:Int)):=by
 rw[mt];refine q3v (fun x=> !d5 (d.getD a []) x) d j (fun i=> ?_) i (by omega);obtain⟨e1,e2⟩:=qib hd a i;by_cases h:i≤j
 ·rw[decide_eq_true h,Bool.true_and,←e2];simp only[ep,Int.toNat_natCast,e1,ag];simp(disch:=omega)only[b7,ba,aj,ai,ar,ax,bc,a8,am,a7,al,az,ak,a9,ao,aq,af,ae,ag,au,ay,Int.toNat_natCast,decide_true];rw[bq];cases decide (cV (d.getD a []) (d.getD i [])<0)<;>rfl
 ·rw[decide_eq_false h];simp(disch:=omega)only[b7,ep,ba,aj,ai,ar,ax,bc,a8,am,a7,al,az,ak,a9,ao,aq,af,ae,ag,au,ay,Int.toNat_natCast,decide_true];rfl
theorem j85(i j:Nat)(hi:1≤i)(hj:j<d.length):nq (a:Int) (i:Int) d (j:Int)=some (.inl (Sort.scanDown (fun x=>d5 d.toArray[a]! x) d.toArray i j:Int)):=by
 rw[mt];refine qrz (fun x=>d5 (d.getD a []) x) d i hi (fun j hj=> ?_) j hj hl;obtain⟨e1,e2⟩:=qib hd a j;by_cases h:i≤j
 ·rw[decide_eq_true h,Bool.true_and,←e2];simp only[eq,Int.toNat_natCast,e1,ag];simp(disch:=omega)only[b7,ba,aj,ai,ar,ax,bc,a8,am,a7,al,az,ak,a9,ao,aq,af,ae,ag,au,ay,Int.toNat_natCast,decide_true];cases decide (cV (d.getD a []) (d.getD j [])<0)<;>rfl
 ·rw[decide_eq_false h];simp(disch:=omega)only[b7,eq,ba,aj,ai,ar,ax,bc,a8,am,a7,al,az,ak,a9,ao,aq,af,ae,ag,au,ay,Int.toNat_natCast,decide_true];rfl
theorem j18(i j:Nat)(hi:1≤i)(hj:j<d.length):k9 (a:Int) ((i:Int),(j:Int),d)=some (.inl (((Sort.partLoop d5 a i j d.toArray).1:Int),(Sort.partLoop d5 a i j d.toArray).2.toList))∧
  (Sort.partLoop d5 a i j d.toArray).1<d.length∧(Sort.partLoop d5 a i j d.toArray).2.toList.length=d.length∧Sh (Sort.partLoop d5 a i j d.toArray).2.toList:=by
 generalize hT:Sort.partLoop d5 a i j d.toArray=T;have hloop:∃o,k9 (a:Int) ((i:Int),(j:Int),d)=some o∧(o= .inl ((T.1:Int),T.2.toList)∧T.1<d.length∧T.2.toList.length=d.length∧Sh T.2.toList):=by
  refine ju (fun(st:Int×Int×Rw)=>∃i j:Nat,st.1=(i:Int)∧st.2.1=(j:Int)∧1≤i∧j<d.length∧st.2.2.length=d.length∧Sh st.2.2∧Sort.partLoop d5 a i j st.2.2.toArray=T) (fun st=>(st.2.1+1-st.1).toNat) (fun(o:(Int×Rw)⊕(Int×Bool×Rw))=>o= .inl ((T.1:Int),T.2.toList)∧T.1<d.length∧T.2.toList.length=d.length∧Sh T.2.toList) _ ⟨i,j,rfl,rfl,hi,hj,rfl,hd,hT⟩ (by show((j:Int)+1-(i:Int)).toNat<many;unfold many;omega) ?_;rintro⟨_,_,c⟩ ⟨i,j,rfl,rfl,hi,hj,hcl,hc,hT⟩;have hcl:c.length=d.length:=hcl;have hc:Sh c:=hc;have hT:Sort.partLoop d5 a i j c.toArray=T:=hT;have u:=j9b a c hc (by omega) (by omega) j i (by omega);have hu:=jd9 (fun x=>d5 x c.toArray[a]!) c.toArray j _ i rfl;rw[Sort.partLoop]at hT;generalize Sort.scanUp (fun x=>d5 x c.toArray[a]!) c.toArray j i=i2 at u hu hT;have v:=j89 a c hc (by omega) (by omega) i2 j (by omega) (by omega);have hv:=qtb (fun x=> !d5 x c.toArray[a]!) c.toArray i2 j;generalize Sort.scanDown (fun x=> !d5 x c.toArray[a]!) c.toArray i2 j=j2 at v hv hT;by_cases h:i2>j2
  ·rw[if_pos h]at hT;subst hT;refine⟨.done ((j2:Int),c),?_,rfl,by show j2<d.length;omega,hcl,hc⟩;simp only[gg,u,ag,au,v];simp(disch:=omega)only[b7,ba,aj,ai,ar,ax,bc,a8,am,a7,al,az,ak,a9,ao,aq,af,ae,ag,au,ay,Int.toNat_natCast,decide_true]
  ·rw[if_neg h,dif_pos (by omega),m6]at hT;have e:(j2:Int)-1=((j2-1:Nat):Int):=by omega
   refine⟨.next (((i2+1:Nat):Int),((j2-1:Nat):Int),swL c i2 j2),?_,⟨i2+1,j2-1,rfl,rfl,by omega,by omega,(pj _ _ _).trans hcl,qee hc _ _,hT⟩,by show(((j2-1:Nat):Int)+1-((i2+1:Nat):Int)).toNat<((j:Int)+1-(i:Int)).toNat;omega⟩;simp only[gg,u,ag,au,v,e,Int.toNat_natCast,List.length_set,qkx];simp(disch:=omega)only[b7,ba,aj,ai,ar,ax,bc,a8,am,a7,al,az,ak,a9,ao,aq,af,ae,ag,au,ay,Int.toNat_natCast,decide_true];rw[bq]
 obtain⟨o,ho,rfl,h⟩:=hloop;exact⟨ho,h⟩
theorem j13(i j:Nat)(hi:1≤i)(hj:j<d.length)(hij:i≤d.length):iv (a:Int) ((i:Int),(j:Int),d)=some (.inl (((Sort.partEqLoop d5 a i j d.toArray).1:Int),(Sort.partEqLoop d5 a i j d.toArray).2.toList)):=by
 generalize hT:Sort.partEqLoop d5 a i j d.toArray=T;have hloop:∃o,iv (a:Int) ((i:Int),(j:Int),d)=some o∧o= .inl ((T.1:Int),T.2.toList):=by
  refine ju (fun(st:Int×Int×Rw)=>∃i j:Nat,st.1=(i:Int)∧st.2.1=(j:Int)∧1≤i∧j<d.length∧i≤d.length∧st.2.2.length=d.length∧Sh st.2.2∧Sort.partEqLoop d5 a i j st.2.2.toArray=T) (fun st=>(st.2.1+1-st.1).toNat) (fun(o:(Int×Rw)⊕(Int×Rw))=>o= .inl ((T.1:Int),T.2.toList)) _ ⟨i,j,rfl,rfl,hi,hj,hij,rfl,hd,hT⟩ (by show((j:Int)+1-(i:Int)).toNat<many;unfold many;omega) ?_;rintro⟨_,_,c⟩ ⟨i,j,rfl,rfl,hi,hj,hij,hcl,hc,hT⟩;have hcl:c.length=d.length:=hcl;have hc:Sh c:=hc;have hT:Sort.partEqLoop d5 a i j c.toArray=T:=hT;have u:=j86 a c hc (by omega) (by omega) j i (by omega);have hu:=jd9 (fun x=> !d5 c.toArray[a]! x) c.toArray j _ i rfl;rw[Sort.partEqLoop]at hT;generalize Sort.scanUp (fun x=> !d5 c.toArray[a]! x) c.toArray j i=i2 at u hu hT;have v:=j85 a c hc (by omega) (by omega) i2 j (by omega) (by omega);have hv:=qtb (fun x=>d5 c.toArray[a]! x) c.toArray i2 j;generalize Sort.scanDown (fun x=>d5 c.toArray[a]! x) c.toArray i2 j=j2 at v hv hT;by_cases h:i2>j2
  ·rw[if_pos h]at hT;subst hT;refine⟨.done ((i2:Int),c),?_,rfl⟩;simp only[er,u,ag,au,v];simp(disch:=omega)only[b7,ba,aj,ai,ar,ax,bc,a8,am,a7,al,az,ak,a9,ao,aq,af,ae,ag,au,ay,Int.toNat_natCast,decide_true]
  ·rw[if_neg h,dif_pos (by omega),m6]at hT;have e:(j2:Int)-1=((j2-1:Nat):Int):=by omega
   refine⟨.next (((i2+1:Nat):Int),((j2-1:Nat):Int),swL c i2 j2),?_,⟨i2+1,j2-1,rfl,rfl,by omega,by omega,by omega,(pj _ _ _).trans hcl,qee hc _ _,hT⟩,by show(((j2-1:Nat):Int)+1-((i2+1:Nat):Int)).toNat<((j:Int)+1-(i:Int)).toNat;omega⟩;simp only[er,u,ag,au,v,e,Int.toNat_natCast,List.length_set,qkx];simp(disch:=omega)only[b7,ba,aj,ai,ar,ax,bc,a8,am,a7,al,az,ak,a9,ao,aq,af,ae,ag,au,ay,Int.toNat_natCast,decide_true];rw[bq]
 obtain⟨o,ho,rfl⟩:=hloop;exact ho
theorem zcf(b pivot:Nat)(hab:a<b)(hb:b≤d.length)(hp:pivot<b):iq (a:Int) (b:Int) (pivot:Int) d=some (((Sort.partition d5 d.toArray a b pivot).1:Int),(Sort.partition d5 d.toArray a b pivot).2.1,(Sort.partition d5 d.toArray a b pivot).2.2.toList):=by
 have hsl:=pj d a pivot;have hsh:=qee hd a pivot;have u:=j9a a (swL d a pivot) hsh (by omega) (by omega) (b-1) (a+1) (by omega);have hu:=jd9 (fun x=>d5 x (swL d a pivot).toArray[a]!) (swL d a pivot).toArray (b-1) _ (a+1) rfl;unfold Sort.partition;rw[m6];simp only;generalize Sort.scanUp (fun x=>d5 x (swL d a pivot).toArray[a]!) (swL d a pivot).toArray (b-1) (a+1)=i2 at u hu;have v:=j88 a (swL d a pivot) hsh (by omega) (by omega) i2 (b-1) (by omega) (by omega);have hv:=qtb (fun x=> !d5 x (swL d a pivot).toArray[a]!) (swL d a pivot).toArray i2 (b-1);generalize Sort.scanDown (fun x=> !d5 x (swL d a pivot).toArray[a]!) (swL d a pivot).toArray i2 (b-1)=j2 at v hv;have e0:(b:Int)-1=((b-1:Nat):Int):=by omega
 have e1:(a:Int)+1=((a+1:Nat):Int):=rfl;unfold iq;simp only[e0,e1,Int.toNat_natCast,List.length_set,qkx,u,ag,au,v,hsl];by_cases h:i2>j2
 ·rw[if_pos h,m6];simp(disch:=omega)only[b7,ba,aj,ai,ar,ax,bc,a8,am,a7,al,az,ak,a9,ao,aq,af,ae,ag,au,ay,Int.toNat_natCast,decide_true]
 ·rw[if_neg h,m6];have e2:(j2:Int)-1=((j2-1:Nat):Int):=by omega
  have e3:(i2:Int)+1=((i2+1:Nat):Int):=rfl;have hsl2:=pj (swL d a pivot) i2 j2;obtain⟨w,w1,w2,w3⟩:=j18 a (swL (swL d a pivot) i2 j2) (qee hsh _ _) (by omega) (by omega) (i2+1) (j2-1) (by omega) (by omega);generalize Sort.partLoop d5 a (i2+1) (j2-1) (swL (swL d a pivot) i2 j2).toArray=T at w w1 w2 w3;obtain⟨T1,T2⟩:=T;have w2:T2.toList.length=(swL (swL d a pivot) i2 j2).length:=w2;have w1:T1<(swL (swL d a pivot) i2 j2).length:=w1;have esw:Sort.swp T2 T1 a=(swL T2.toList T1 a).toArray:=by
   rw[←m6]
  simp only[e2,e3,w,ag,au,Int.toNat_natCast,qkx,esw];simp(disch:=omega)only[b7,ba,aj,ai,ar,ax,bc,a8,am,a7,al,az,ak,a9,ao,aq,af,ae,ag,au,ay,Int.toNat_natCast,decide_true]
theorem zca(b pivot:Nat)(hab:a<b)(hb:b≤d.length)(hp:pivot<b):br (a:Int) (b:Int) (pivot:Int) d=some (((Sort.partitionEqual d5 d.toArray a b pivot).1:Int),(Sort.partitionEqual d5 d.toArray a b pivot).2.toList):=by
 have hsl:=pj d a pivot;have hsh:=qee hd a pivot;have w:=j13 a (swL d a pivot) hsh (by omega) (by omega) (a+1) (b-1) (by omega) (by omega) (by omega);unfold Sort.partitionEqual;rw[m6];have e0:(b:Int)-1=((b-1:Nat):Int):=by omega
 have e1:(a:Int)+1=((a+1:Nat):Int):=rfl;unfold br;simp only[e0,e1,Int.toNat_natCast,List.length_set,qkx,w,ag,au];simp(disch:=omega)only[b7,ba,aj,ai,ar,ax,bc,a8,am,a7,al,az,ak,a9,ao,aq,af,ae,ag,au,ay,Int.toNat_natCast,decide_true]
end
end Go.Proofs.YtclbndfjhjladaaGreat
