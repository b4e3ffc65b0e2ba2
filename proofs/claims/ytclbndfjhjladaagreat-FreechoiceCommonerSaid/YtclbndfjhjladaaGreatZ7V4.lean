/-
  Sorting rows of numbers: partial insertion, the pivot, broken patterns.
-/
import Derived.Test.YtclbndfjhjladaaGreatZ7V3
import Derived.KernelRfl
set_option linter.all false
namespace Go.Proofs.YtclbndfjhjladaaGreat
open Go.K Go.M
theorem jpi(d:Array (List Int))(b:Nat):∀(n i:Nat),b-i=n→i≤Sort.scanSorted em d b i∧(Sort.scanSorted em d b i≤i∨Sort.scanSorted em d b i≤b):=by
 intro n
 induction n with
 |zero=>
  intro i h;rw[Sort.scanSorted,if_neg (by simp;omega)];omega
 |succ n ih=>
  intro i h;rw[Sort.scanSorted];split
  ·have:=ih (i+1) (by omega);omega
  ·omega
theorem j6k(a j:Int)(b:Nat)(d:Rw)(hd:Sh d)(hb:b≤d.length)(hl:d.length≤1000000)(i:Nat)(hi:1≤i):
  fp a (b:Int) j d (i:Int)=some (.inl (Sort.scanSorted em d.toArray b i:Int)):=by
 generalize hT:Sort.scanSorted em d.toArray b i=T;have hloop:∃o,fp a (b:Int) j d (i:Int)=some o∧o= .inl (T:Int):=by
  refine p6 (fun(st:Int)=>∃k:Nat,st=(k:Int)∧1≤k∧Sort.scanSorted em d.toArray b k=T) (fun st=>((b:Int)-st).toNat) (fun(o:Int⊕(Bool×Rw))=>o= .inl (T:Int)) _ ⟨i,rfl,hi,hT⟩ (by show((b:Int)-(i:Int)).toNat<many;unfold many;omega) ?_;rintro _ ⟨k,rfl,hk,hT⟩;rw[Sort.scanSorted]at hT;obtain⟨k,rfl⟩:∃q,k=q+1:=⟨k-1,by omega⟩;rw[nt,nt,Nat.add_sub_cancel]at hT;obtain⟨e1,e2⟩:=qkr hd (k+1) k;have e3:((k+1:Nat):Int)-1=(k:Int):=by omega
  by_cases h:k+1<b
  ·cases hlt:em (d.getD (k+1) []) (d.getD k [])with
   |true=>
    rw[hlt]at e2 hT;rw[if_neg (by simp)]at hT;refine⟨.done ((k+1:Nat):Int),?_,by rw[←hT]⟩;simp only[cd,e3,Int.toNat_natCast,e1,ao,e2];simp(disch:=omega)only[be,rs]
   |false=>
    rw[hlt]at e2 hT;rw[if_pos (by simp;omega)]at hT;refine⟨.next ((k+1+1:Nat):Int),?_,⟨k+1+1,rfl,by omega,hT⟩,by show((b:Int)-((k+1+1:Nat):Int)).toNat<((b:Int)-((k+1:Nat):Int)).toNat;omega⟩;simp only[cd,e3,Int.toNat_natCast,e1,ao,e2];simp(disch:=omega)only[be,rs];rw[ar]
  ·rw[if_neg (by simp;omega)]at hT;refine⟨.done ((k+1:Nat):Int),?_,by rw[←hT]⟩;simp(disch:=omega)only[be,cd,rs]
 obtain⟨_,ho,rfl⟩:=hloop;exact ho
theorem j6i(a b i0 j0:Int)(j:Nat)(d:Rw)(hd:Sh d)(hj:j<d.length)(hl:d.length≤1000000):
  fq a b i0 j0 ((j:Int),d)=some (.inl (Sort.shiftDown em j d.toArray).toList):=by
 generalize hT:Sort.shiftDown em j d.toArray=T;have hloop:∃o,fq a b i0 j0 ((j:Int),d)=some o∧o= .inl T.toList:=by
  refine p6 (fun(st:Int×Rw)=>∃k:Nat,st.1=(k:Int)∧k<st.2.length∧st.2.length=d.length∧Sh st.2∧Sort.shiftDown em k st.2.toArray=T) (fun st=>st.1.toNat) (fun(o:Rw⊕(Bool×Rw))=>o= .inl T.toList) _ ⟨j,rfl,hj,rfl,hd,hT⟩ (by show((j:Nat):Int).toNat<many;unfold many;omega) ?_;rintro⟨_,c⟩ ⟨k,rfl,hk,hcl,hc,hT⟩;have hk:k<c.length:=hk;have hcl:c.length=d.length:=hcl;have hc:Sh c:=hc;have hT:Sort.shiftDown em k c.toArray=T:=hT;cases k with
  |zero=>
   refine⟨.done c,?_,by rw[←hT];rfl⟩;have:¬(1:Int)≤((0:Nat):Int):=by omega
   simp(disch:=omega)only[be,ce,rs]
  |succ k=>
   rw[Sort.shiftDown,nt,nt]at hT;obtain⟨e1,e2⟩:=qkr hc (k+1) k;have e3:((k+1:Nat):Int)-1=(k:Int):=by omega
   cases hlt:em (c.getD (k+1) []) (c.getD k [])with
   |true=>
    rw[hlt]at e2 hT;rw[if_neg (by simp),og]at hT;refine⟨.next ((k:Int),swL c (k+1) k),?_,⟨k,rfl,by show k<(swL c (k+1) k).length;rw[qs];omega,(qs _ _ _).trans hcl,qgo hc _ _,hT⟩,by show((k:Nat):Int).toNat<((k+1:Nat):Int).toNat;omega⟩;simp only[ce,e3,Int.toNat_natCast,e1,ao,e2,List.length_set];simp(disch:=omega)only[be,rs];rfl
   |false=>
    rw[hlt]at e2 hT;rw[if_pos (by simp)]at hT;refine⟨.done c,?_,by rw[←hT]⟩;simp only[ce,e3,Int.toNat_natCast,e1,ao,e2];simp(disch:=omega)only[be,rs]
 obtain⟨_,ho,rfl⟩:=hloop;exact ho
theorem q60:∀(j:Nat) (d:Rw),Sh d→((Sort.shiftDown em j d.toArray).toList).length=d.length∧Sh (Sort.shiftDown em j d.toArray).toList
 |0,d,h=>⟨rfl,h⟩
 |j+1,d,h=>by
  rw[Sort.shiftDown];split
  ·exact⟨rfl,h⟩
  ·rw[og];have:=q60 j (swL d (j+1) j) (qgo h _ _);rw[qs]at this;exact this
theorem jdi(b:Nat):∀(n j:Nat) (d:Rw),b-j=n→Sh d→((Sort.shiftUp em b j d.toArray).toList).length=d.length∧Sh (Sort.shiftUp em b j d.toArray).toList:=by
 intro n
 induction n with
 |zero=>
  intro j d h hd;rw[Sort.shiftUp,if_neg (by omega)];exact⟨rfl,hd⟩
 |succ n ih=>
  intro j d h hd;rw[Sort.shiftUp,if_pos (by omega)];split
  ·exact⟨rfl,hd⟩
  ·rw[og];have:=ih (j+1) (swL d j (j-1)) (by omega) (qgo hd _ _);rw[qs]at this;exact this
theorem zhi(a i0 j0:Int)(b j:Nat)(d:Rw)(hd:Sh d)(hj:1≤j)(hb:b≤d.length)(hl:d.length≤1000000):
  fu a (b:Int) i0 j0 ((j:Int),d)=some (.inl (Sort.shiftUp em b j d.toArray).toList):=by
 generalize hT:Sort.shiftUp em b j d.toArray=T;have hloop:∃o,fu a (b:Int) i0 j0 ((j:Int),d)=some o∧o= .inl T.toList:=by
  refine p6 (fun(st:Int×Rw)=>∃k:Nat,st.1=(k:Int)∧1≤k∧st.2.length=d.length∧Sh st.2∧Sort.shiftUp em b k st.2.toArray=T) (fun st=>((b:Int)-st.1).toNat) (fun(o:Rw⊕(Bool×Rw))=>o= .inl T.toList) _ ⟨j,rfl,hj,rfl,hd,hT⟩ (by show((b:Int)-(j:Int)).toNat<many;unfold many;omega) ?_;rintro⟨_,c⟩ ⟨k,rfl,hk,hcl,hc,hT⟩;have hcl:c.length=d.length:=hcl;have hc:Sh c:=hc;have hT:Sort.shiftUp em b k c.toArray=T:=hT;obtain⟨k,rfl⟩:∃q,k=q+1:=⟨k-1,by omega⟩;rw[Sort.shiftUp,nt,nt,Nat.add_sub_cancel]at hT;obtain⟨e1,e2⟩:=qkr hc (k+1) k;have e3:((k+1:Nat):Int)-1=(k:Int):=by omega
  by_cases h:k+1<b
  ·rw[if_pos h]at hT;cases hlt:em (c.getD (k+1) []) (c.getD k [])with
   |true=>
    rw[hlt]at e2 hT;rw[if_neg (by simp),og]at hT;refine⟨.next (((k+1+1:Nat):Int),swL c (k+1) k),?_,⟨k+1+1,rfl,by omega,(qs _ _ _).trans hcl,qgo hc _ _,hT⟩,by show((b:Int)-((k+1+1:Nat):Int)).toNat<((b:Int)-((k+1:Nat):Int)).toNat;omega⟩;simp only[cf,e3,Int.toNat_natCast,e1,ao,e2,List.length_set];simp(disch:=omega)only[be,rs];rw[ar];rfl
   |false=>
    rw[hlt]at e2 hT;rw[if_pos (by simp)]at hT;refine⟨.done c,?_,by rw[←hT]⟩;simp only[cf,e3,Int.toNat_natCast,e1,ao,e2];simp(disch:=omega)only[be,rs]
  ·rw[if_neg h]at hT;refine⟨.done c,?_,by rw[←hT]⟩;simp(disch:=omega)only[be,cf,rs]
 obtain⟨_,ho,rfl⟩:=hloop;exact ho
theorem j7p(a j0:Int)(b i:Nat)(d:Rw)(hd:Sh d)(hb:b≤d.length)(hl:d.length≤1000000)(hi:i≤b):
  c7 a (b:Int) (i:Int) j0 d=some (.inl (if b-i≥2 then Sort.shiftUp em b (i+1) d.toArray else d.toArray).toList):=by
 unfold c7;by_cases h:b-i≥2
 ·have e:=zhi a (i:Int) j0 b (i+1) d hd (by omega) hb hl;rw[if_pos h];rw[←ar]at e;simp(disch:=omega)only[be,cz,rs];rw[e];rfl
 ·rw[if_neg h];simp(disch:=omega)only[be,cz,rs]
def psR(T:Array (List Int)×Bool):Rw⊕(Bool×Rw)→Prop
 | .inl d=>T=(d.toArray,false)
 | .inr r=>T=(r.2.toArray,r.1)
theorem j6j(a b:Nat)(d:Rw)(hd:Sh d)(hab:a<b)(hb:b≤d.length)(hl:d.length≤1000000):
  ∃o,lb (a:Int) (b:Int) (((a+1:Nat):Int),0,d)=some o∧psR (Sort.partialInsertionSort em d.toArray a b) o:=by
 unfold Sort.partialInsertionSort;generalize hT:Sort.partialIns em a b 5 (a+1) d.toArray=T;refine p6 (fun(st:Int×Int×Rw)=>∃i s:Nat,st.1=(i:Int)∧st.2.1=5-(s:Int)∧s≤5∧a+1≤i∧i≤b∧Sh st.2.2∧st.2.2.length=d.length∧Sort.partialIns em a b s i st.2.2.toArray=T) (fun st=>(5-st.2.1).toNat) (psR T) _ ⟨a+1,5,rfl,rfl,Nat.le_refl _,Nat.le_refl _,hab,hd,rfl,hT⟩ (by show((5:Int)-0).toNat<many;unfold many;omega) ?_;rintro⟨_,_,c⟩ ⟨i,s,rfl,rfl,hs,hi,hib,hc,hcl,hT⟩;have hc:Sh c:=hc;have hcl:c.length=d.length:=hcl;have hT:Sort.partialIns em a b s i c.toArray=T:=hT;cases s with
 |zero=>
  refine⟨.done c,?_,hT.symm⟩;have:¬(5:Int)-((0:Nat):Int)<5:=by omega
  simp(disch:=omega)only[be,bk,rs]
 |succ s=>
  have e1:=j6k (a:Int) (5-((s+1:Nat):Int)) b c hc (by omega) (by omega) i (by omega);obtain⟨g1,g2⟩:=jpi c.toArray b _ i rfl;rw[Sort.partialIns]at hT;generalize Sort.scanSorted em c.toArray b i=k at e1 g1 g2 hT;simp only[]at hT;have hk:k≤b:=by omega
  have h5:(5:Int)-((s+1:Nat):Int)<5:=by omega
  have e5:(5:Int)-((s+1:Nat):Int)+1=5-(s:Int):=by omega
  by_cases hkb:k=b
  ·rw[if_pos hkb]at hT;have hkb' :(k:Int)=(b:Int):=by omega
   refine⟨.ret (true,c),?_,hT.symm⟩;simp only[bk,e1,ao,i6];simp(disch:=omega)only[be,rs]
  ·rw[if_neg hkb]at hT;by_cases h50:b-a<50
   ·rw[if_pos h50]at hT;refine⟨.ret (false,c),?_,hT.symm⟩;have hne:¬(k:Int)=(b:Int):=by omega
    simp only[bk,e1,ao,i6];simp(disch:=omega)only[be,rs]
   ·rw[if_neg h50,og]at hT;obtain⟨q,rfl⟩:∃q,k=q+1:=⟨k-1,by omega⟩;rw[Nat.add_sub_cancel]at hT;have hne:¬((q+1:Nat):Int)=(b:Int):=by omega
    have e3:((q+1:Nat):Int)-1=(q:Int):=by omega
    have hsw:=qgo hc (q+1) q;have hswl:=qs c (q+1) q;by_cases h2:q+1-a≥2
    ·rw[if_pos h2]at hT;have e4:=j6i (a:Int) (b:Int) ((q+1:Nat):Int) (5-((s+1:Nat):Int)) q (swL c (q+1) q) hsw (by omega) (by omega);obtain⟨m1,m2⟩:=q60 q (swL c (q+1) q) hsw;generalize Sort.shiftDown em q (swL c (q+1) q).toArray=D at e4 m1 m2 hT;have e6:=j7p (a:Int) (5-((s+1:Nat):Int)) b (q+1) D.toList m2 (by omega) (by omega) hk;have hsz:(if b-(q+1)≥2 then Sort.shiftUp em b (q+1+1) D else D).toList.length=d.length∧Sh (if b-(q+1)≥2 then Sort.shiftUp em b (q+1+1) D else D).toList:=by
      split
      ·obtain⟨z1,z2⟩:=jdi b _ (q+1+1) D.toList rfl m2;rw[Array.toArray_toList]at z1 z2;exact⟨by omega,z2⟩
      ·exact⟨by omega,m2⟩
     rw[Array.toArray_toList]at e6;refine⟨.next (((q+1:Nat):Int),5-(s:Int),(if b-(q+1)≥2 then Sort.shiftUp em b (q+1+1) D else D).toList),?_,⟨q+1,s,rfl,rfl,by omega,by omega,hk,hsz.2,hsz.1,hT⟩,by show((5:Int)-(5-(s:Int))).toNat<((5:Int)-(5-((s+1:Nat):Int))).toNat;omega⟩;simp only[bk,e1,ao,i6,e3,Int.toNat_natCast,qne,e4,e6,List.length_set];simp(disch:=omega)only[be,rs];rw[e5]
    ·rw[if_neg h2]at hT;have e6:=j7p (a:Int) (5-((s+1:Nat):Int)) b (q+1) (swL c (q+1) q) hsw (by omega) (by omega) hk;have hsz:(if b-(q+1)≥2 then Sort.shiftUp em b (q+1+1) (swL c (q+1) q).toArray else(swL c (q+1) q).toArray).toList.length=d.length∧Sh (if b-(q+1)≥2 then Sort.shiftUp em b (q+1+1) (swL c (q+1) q).toArray else(swL c (q+1) q).toArray).toList:=by
      split
      ·obtain⟨z1,z2⟩:=jdi b _ (q+1+1) (swL c (q+1) q) rfl hsw;exact⟨by omega,z2⟩
      ·exact⟨by show(swL c (q+1) q).length=d.length;omega,hsw⟩
     refine⟨.next (((q+1:Nat):Int),5-(s:Int),(if b-(q+1)≥2 then Sort.shiftUp em b (q+1+1) (swL c (q+1) q).toArray else(swL c (q+1) q).toArray).toList),?_,⟨q+1,s,rfl,rfl,by omega,by omega,hk,hsz.2,hsz.1,hT⟩,by show((5:Int)-(5-(s:Int))).toNat<((5:Int)-(5-((s+1:Nat):Int))).toNat;omega⟩;simp only[bk,e1,ao,i6,e3,Int.toNat_natCast,qne,e6,List.length_set];simp(disch:=omega)only[be,rs];rw[e5]
theorem zhh(a b:Nat)(d:Rw)(hd:Sh d)(hab:a<b)(hb:b≤d.length)(hl:d.length≤1000000):
  dr (a:Int) (b:Int) d=some ((Sort.partialInsertionSort em d.toArray a b).2,(Sort.partialInsertionSort em d.toArray a b).1.toList):=by
 obtain⟨o,ho,hp⟩:=j6j a b d hd hab hb hl;unfold dr;rw[ar,lz (by omega) (by omega),ho,ao];cases o with
 |inl d' =>
  have hp:_=(d'.toArray,false):=hp;rw[hp];rfl
 |inr r=>
  have hp:_=(r.2.toArray,r.1):=hp;rw[hp];rfl
theorem jf9(d:Rw)(hd:Sh d)(lo hi a b s:Nat)(ha:lo≤a∧a<hi)(hb:lo≤b∧b<hi)(hh:hi≤d.length)(hl:d.length≤1000000)(hs:s≤100):
  ∃x y s' :Nat,df d (a:Int) (b:Int) (s:Int)=some ((x:Int),(y:Int),(s' :Int))∧(lo≤x∧x<hi)∧(lo≤y∧y<hi)∧s' ≤s+1:=by
 obtain⟨e1,e2⟩:=qkr hd b a;cases hlt:em (d.getD b []) (d.getD a [])with
 |true=>
  rw[hlt]at e2;refine⟨b,a,s+1,?_,hb,ha,Nat.le_refl _⟩;simp only[df,Int.toNat_natCast,e1,ao,e2];simp(disch:=omega)only[be,rs];rw[ar]
 |false=>
  rw[hlt]at e2;refine⟨a,b,s,?_,ha,hb,by omega⟩;simp only[df,Int.toNat_natCast,e1,ao,e2];simp(disch:=omega)only[be,rs]
theorem jf4(d:Rw)(hd:Sh d)(lo hi a b c s:Nat)(ha:lo≤a∧a<hi)(hb:lo≤b∧b<hi)(hc:lo≤c∧c<hi)(hh:hi≤d.length)(hl:d.length≤1000000)(hs:s≤50):
  ∃x s' :Nat,de d (a:Int) (b:Int) (c:Int) (s:Int)=some ((x:Int),(s' :Int))∧(lo≤x∧x<hi)∧s' ≤s+3:=by
 obtain⟨x1,y1,s1,e1,p1,q1,r1⟩:=jf9 d hd lo hi a b s ha hb hh hl (by omega);obtain⟨x2,y2,s2,e2,p2,q2,r2⟩:=jf9 d hd lo hi y1 c s1 q1 hc hh hl (by omega);obtain⟨x3,y3,s3,e3,p3,q3,r3⟩:=jf9 d hd lo hi x1 x2 s2 p1 p2 hh hl (by omega);refine⟨y3,s3,?_,q3,by omega⟩;unfold de;rw[e1,ao];simp only[];rw[e2,ao];simp only[];rw[e3,ao]
theorem q16(d:Rw)(hd:Sh d)(lo hi a s:Nat)(ha:lo+1≤a∧a+1<hi)(hh:hi≤d.length)(hl:d.length≤1000000)(hs:s≤50):
  ∃x s' :Nat,cb d (a:Int) (s:Int)=some ((x:Int),(s' :Int))∧(lo≤x∧x<hi)∧s' ≤s+3:=by
 obtain⟨k,rfl⟩:∃q,a=q+1:=⟨a-1,by omega⟩;obtain⟨x,s',e,p,q⟩:=jf4 d hd lo hi k (k+1) (k+1+1) s (by omega) (by omega) (by omega) hh hl hs;refine⟨x,s',?_,p,q⟩;have e3:((k+1:Nat):Int)-1=(k:Int):=by omega
 unfold cb;rw[e3,ar,lz (by omega) (by omega),lz (by omega) (by omega),e];rfl
theorem jwm(j s:Int):∃h,dx j s=some (.inr (j,h)):=by
 unfold dx jp;cases decide (s=0)<;>cases decide (s=12)<;>exact⟨_,rfl⟩
theorem zex(d:Rw)(hd:Sh d)(a b:Nat)(hab:a<b)(hb:b≤d.length)(hl:d.length≤1000000):
  ∃(x:Nat) (h:Int),ct d (a:Int) (b:Int)=some ((x:Int),h)∧a≤x∧x<b:=by
 have hq:Int.tdiv ((b:Int)-(a:Int)) 4=(((b-a)/4:Nat):Int):=by
  rw[show(b:Int)-(a:Int)=((b-a:Nat):Int) by omega,Int.tdiv_eq_ediv_of_nonneg (by omega)];rfl
 have k1:(a:Int)+(((b-a)/4:Nat):Int)*1=((a+(b-a)/4:Nat):Int):=by omega
 have k2:(a:Int)+(((b-a)/4:Nat):Int)*2=((a+(b-a)/4*2:Nat):Int):=by omega
 have k3:(a:Int)+(((b-a)/4:Nat):Int)*3=((a+(b-a)/4*3:Nat):Int):=by omega
 unfold ct;rw[hq,k1,k2,k3];by_cases h8:b-a<8
 ·obtain⟨h,eh⟩:=jwm ((a+(b-a)/4*2:Nat):Int) 0;refine⟨a+(b-a)/4*2,h,?_,by omega,by omega⟩;have:¬(8:Int)≤(b:Int)-(a:Int):=by omega
  simp(disch:=omega)only[be,rs];rw[eh];rfl
 ·by_cases h50:b-a<50
  ·obtain⟨x,s,e,p,q⟩:=jf4 d hd a b (a+(b-a)/4) (a+(b-a)/4*2) (a+(b-a)/4*3) 0 (by omega) (by omega) (by omega) hb hl (by omega);obtain⟨h,eh⟩:=jwm (x:Int) (s:Int);refine⟨x,h,?_,p⟩;have:(8:Int)≤(b:Int)-(a:Int):=by omega
   have:¬(50:Int)≤(b:Int)-(a:Int):=by omega
   simp(disch:=omega)only[be,rs];have e:de d _ _ _ 0=_:=e;rw[e,ao];simp only[];rw[eh];rfl
  ·obtain⟨x1,s1,e1,p1,q1⟩:=q16 d hd a b (a+(b-a)/4) 0 (by omega) hb hl (by omega);obtain⟨x2,s2,e2,p2,q2⟩:=q16 d hd a b (a+(b-a)/4*2) s1 (by omega) hb hl (by omega);obtain⟨x3,s3,e3,p3,q3⟩:=q16 d hd a b (a+(b-a)/4*3) s2 (by omega) hb hl (by omega);obtain⟨x,s,e,p,q⟩:=jf4 d hd a b x1 x2 x3 s3 p1 p2 p3 hb hl (by omega);obtain⟨h,eh⟩:=jwm (x:Int) (s:Int);refine⟨x,h,?_,p⟩;have:(8:Int)≤(b:Int)-(a:Int):=by omega
   have:(50:Int)≤(b:Int)-(a:Int):=by omega
   simp(disch:=omega)only[be,rs];have e1:cb d _ 0=_:=e1;rw[e1,ao];simp only[];rw[e2,ao];simp only[];rw[e3,ao];simp only[];rw[e,ao];simp only[];rw[eh];rfl
end Go.Proofs.YtclbndfjhjladaaGreat
