/-
  Sorting rows of numbers: partial insertion, the pivot, broken patterns.
-/
import Derived.Test.YtclbndfjhjladaaGreatZ6V3
import Derived.KernelRfl
set_option linter.all false
namespace Go.Proofs.YtclbndfjhjladaaGreat
open Go.K Go.M
theorem jne(d:Array (List Int))(b:Nat):∀(n i:Nat),b-i=n→i≤Sort.scanSorted d5 d b i∧(Sort.scanSorted d5 d b i≤i∨Sort.scanSorted d5 d b i≤b):=by
 intro n
 induction n with
 |zero=>
  intro i h;rw[Sort.scanSorted,if_neg (by simp;omega)];omega
 |succ n ih=>
  intro i h;rw[Sort.scanSorted];split
  ·have:=ih (i+1) (by omega);omega
  ·omega
theorem j17(a j:Int)(b:Nat)(d:Rw)(hd:Sh d)(hb:b≤d.length)(hl:d.length≤1000000)(i:Nat)(hi:1≤i):
  fw a (b:Int) j d (i:Int)=some (.inl (Sort.scanSorted d5 d.toArray b i:Int)):=by
 generalize hT:Sort.scanSorted d5 d.toArray b i=T;have hloop:∃o,fw a (b:Int) j d (i:Int)=some o∧o= .inl (T:Int):=by
  refine ju (fun(st:Int)=>∃k:Nat,st=(k:Int)∧1≤k∧Sort.scanSorted d5 d.toArray b k=T) (fun st=>((b:Int)-st).toNat) (fun(o:Int⊕(Bool×Rw))=>o= .inl (T:Int)) _ ⟨i,rfl,hi,hT⟩ (by show((b:Int)-(i:Int)).toNat<many;unfold many;omega) ?_;rintro _ ⟨k,rfl,hk,hT⟩;rw[Sort.scanSorted]at hT;obtain⟨k,rfl⟩:∃q,k=q+1:=⟨k-1,by omega⟩;rw[mt,mt,Nat.add_sub_cancel]at hT;obtain⟨e1,e2⟩:=qib hd (k+1) k;have e3:((k+1:Nat):Int)-1=(k:Int):=by omega
  by_cases h:k+1<b
  ·cases hlt:d5 (d.getD (k+1) []) (d.getD k [])with
   |true=>
    rw[hlt]at e2 hT;rw[if_neg (by simp)]at hT;refine⟨.done ((k+1:Nat):Int),?_,by rw[←hT]⟩;simp only[cw,e3,Int.toNat_natCast,e1,ag,e2];simp(disch:=omega)only[b7,ba,aj,ai,ar,ax,bc,a8,am,a7,al,az,ak,a9,ao,aq,af,ae,ag,au,ay,Int.toNat_natCast,decide_true]
   |false=>
    rw[hlt]at e2 hT;rw[if_pos (by simp;omega)]at hT;refine⟨.next ((k+1+1:Nat):Int),?_,⟨k+1+1,rfl,by omega,hT⟩,by show((b:Int)-((k+1+1:Nat):Int)).toNat<((b:Int)-((k+1:Nat):Int)).toNat;omega⟩;simp only[cw,e3,Int.toNat_natCast,e1,ag,e2];simp(disch:=omega)only[b7,ba,aj,ai,ar,ax,bc,a8,am,a7,al,az,ak,a9,ao,aq,af,ae,ag,au,ay,Int.toNat_natCast,decide_true];rw[bq]
  ·rw[if_neg (by simp;omega)]at hT;refine⟨.done ((k+1:Nat):Int),?_,by rw[←hT]⟩;simp(disch:=omega)only[b7,cw,ba,aj,ai,ar,ax,bc,a8,am,a7,al,az,ak,a9,ao,aq,af,ae,ag,au,ay,Int.toNat_natCast,decide_true]
 obtain⟨_,ho,rfl⟩:=hloop;exact ho
theorem j15(a b i0 j0:Int)(j:Nat)(d:Rw)(hd:Sh d)(hj:j<d.length)(hl:d.length≤1000000):
  fx a b i0 j0 ((j:Int),d)=some (.inl (Sort.shiftDown d5 j d.toArray).toList):=by
 generalize hT:Sort.shiftDown d5 j d.toArray=T;have hloop:∃o,fx a b i0 j0 ((j:Int),d)=some o∧o= .inl T.toList:=by
  refine ju (fun(st:Int×Rw)=>∃k:Nat,st.1=(k:Int)∧k<st.2.length∧st.2.length=d.length∧Sh st.2∧Sort.shiftDown d5 k st.2.toArray=T) (fun st=>st.1.toNat) (fun(o:Rw⊕(Bool×Rw))=>o= .inl T.toList) _ ⟨j,rfl,hj,rfl,hd,hT⟩ (by show((j:Nat):Int).toNat<many;unfold many;omega) ?_;rintro⟨_,c⟩ ⟨k,rfl,hk,hcl,hc,hT⟩;have hk:k<c.length:=hk;have hcl:c.length=d.length:=hcl;have hc:Sh c:=hc;have hT:Sort.shiftDown d5 k c.toArray=T:=hT;cases k with
  |zero=>
   refine⟨.done c,?_,by rw[←hT];rfl⟩;have:¬(1:Int)≤((0:Nat):Int):=by omega
   simp(disch:=omega)only[b7,cx,ba,aj,ai,ar,ax,bc,a8,am,a7,al,az,ak,a9,ao,aq,af,ae,ag,au,ay,Int.toNat_natCast,decide_true]
  |succ k=>
   rw[Sort.shiftDown,mt,mt]at hT;obtain⟨e1,e2⟩:=qib hc (k+1) k;have e3:((k+1:Nat):Int)-1=(k:Int):=by omega
   cases hlt:d5 (c.getD (k+1) []) (c.getD k [])with
   |true=>
    rw[hlt]at e2 hT;rw[if_neg (by simp),m6]at hT;refine⟨.next ((k:Int),swL c (k+1) k),?_,⟨k,rfl,by show k<(swL c (k+1) k).length;rw[pj];omega,(pj _ _ _).trans hcl,qee hc _ _,hT⟩,by show((k:Nat):Int).toNat<((k+1:Nat):Int).toNat;omega⟩;simp only[cx,e3,Int.toNat_natCast,e1,ag,e2,List.length_set];simp(disch:=omega)only[b7,ba,aj,ai,ar,ax,bc,a8,am,a7,al,az,ak,a9,ao,aq,af,ae,ag,au,ay,Int.toNat_natCast,decide_true];rfl
   |false=>
    rw[hlt]at e2 hT;rw[if_pos (by simp)]at hT;refine⟨.done c,?_,by rw[←hT]⟩;simp only[cx,e3,Int.toNat_natCast,e1,ag,e2];simp(disch:=omega)only[b7,ba,aj,ai,ar,ax,bc,a8,am,a7,al,az,ak,a9,ao,aq,af,ae,ag,au,ay,Int.toNat_natCast,decide_true]
 obtain⟨_,ho,rfl⟩:=hloop;exact ho
theorem q3x:∀(j:Nat) (d:Rw),Sh d→((Sort.shiftDown d5 j d.toArray).toList).length=d.length∧Sh (Sort.shiftDown d5 j d.toArray).toList
 |0,d,h=>⟨rfl,h⟩
 |j+1,d,h=>by
  rw[Sort.shiftDown];split
  ·exact⟨rfl,h⟩
  ·rw[m6];have:=q3x j (swL d (j+1) j) (qee h _ _);rw[pj]at this;exact this
theorem jah(b:Nat):∀(n j:Nat) (d:Rw),b-j=n→Sh d→((Sort.shiftUp d5 b j d.toArray).toList).length=d.length∧Sh (Sort.shiftUp d5 b j d.toArray).toList:=by
 intro n
 induction n with
 |zero=>
  intro j d h hd;rw[Sort.shiftUp,if_neg (by omega)];exact⟨rfl,hd⟩
 |succ n ih=>
  intro j d h hd;rw[Sort.shiftUp,if_pos (by omega)];split
  ·exact⟨rfl,hd⟩
  ·rw[m6];have:=ih (j+1) (swL d j (j-1)) (by omega) (qee hd _ _);rw[pj]at this;exact this
theorem zce(a i0 j0:Int)(b j:Nat)(d:Rw)(hd:Sh d)(hj:1≤j)(hb:b≤d.length)(hl:d.length≤1000000):
  fy a (b:Int) i0 j0 ((j:Int),d)=some (.inl (Sort.shiftUp d5 b j d.toArray).toList):=by
 generalize hT:Sort.shiftUp d5 b j d.toArray=T;have hloop:∃o,fy a (b:Int) i0 j0 ((j:Int),d)=some o∧o= .inl T.toList:=by
  refine ju (fun(st:Int×Rw)=>∃k:Nat,st.1=(k:Int)∧1≤k∧st.2.length=d.length∧Sh st.2∧Sort.shiftUp d5 b k st.2.toArray=T) (fun st=>((b:Int)-st.1).toNat) (fun(o:Rw⊕(Bool×Rw))=>o= .inl T.toList) _ ⟨j,rfl,hj,rfl,hd,hT⟩ (by show((b:Int)-(j:Int)).toNat<many;unfold many;omega) ?_;rintro⟨_,c⟩ ⟨k,rfl,hk,hcl,hc,hT⟩;have hcl:c.length=d.length:=hcl;have hc:Sh c:=hc;have hT:Sort.shiftUp d5 b k c.toArray=T:=hT;obtain⟨k,rfl⟩:∃q,k=q+1:=⟨k-1,by omega⟩;rw[Sort.shiftUp,mt,mt,Nat.add_sub_cancel]at hT;obtain⟨e1,e2⟩:=qib hc (k+1) k;have e3:((k+1:Nat):Int)-1=(k:Int):=by omega
  by_cases h:k+1<b
  ·rw[if_pos h]at hT;cases hlt:d5 (c.getD (k+1) []) (c.getD k [])with
   |true=>
    rw[hlt]at e2 hT;rw[if_neg (by simp),m6]at hT;refine⟨.next (((k+1+1:Nat):Int),swL c (k+1) k),?_,⟨k+1+1,rfl,by omega,(pj _ _ _).trans hcl,qee hc _ _,hT⟩,by show((b:Int)-((k+1+1:Nat):Int)).toNat<((b:Int)-((k+1:Nat):Int)).toNat;omega⟩;simp only[cz,e3,Int.toNat_natCast,e1,ag,e2,List.length_set];simp(disch:=omega)only[b7,ba,aj,ai,ar,ax,bc,a8,am,a7,al,az,ak,a9,ao,aq,af,ae,ag,au,ay,Int.toNat_natCast,decide_true];rw[bq];rfl
   |false=>
    rw[hlt]at e2 hT;rw[if_pos (by simp)]at hT;refine⟨.done c,?_,by rw[←hT]⟩;simp only[cz,e3,Int.toNat_natCast,e1,ag,e2];simp(disch:=omega)only[b7,ba,aj,ai,ar,ax,bc,a8,am,a7,al,az,ak,a9,ao,aq,af,ae,ag,au,ay,Int.toNat_natCast,decide_true]
  ·rw[if_neg h]at hT;refine⟨.done c,?_,by rw[←hT]⟩;simp(disch:=omega)only[b7,cz,ba,aj,ai,ar,ax,bc,a8,am,a7,al,az,ak,a9,ao,aq,af,ae,ag,au,ay,Int.toNat_natCast,decide_true]
 obtain⟨_,ho,rfl⟩:=hloop;exact ho
theorem j26(a j0:Int)(b i:Nat)(d:Rw)(hd:Sh d)(hb:b≤d.length)(hl:d.length≤1000000)(hi:i≤b):
  dm a (b:Int) (i:Int) j0 d=some (.inl (if b-i≥2 then Sort.shiftUp d5 b (i+1) d.toArray else d.toArray).toList):=by
 unfold dm;by_cases h:b-i≥2
 ·have e:=zce a (i:Int) j0 b (i+1) d hd (by omega) hb hl;rw[if_pos h];rw[←bq]at e;simp(disch:=omega)only[b7,dk,ba,aj,ai,ar,ax,bc,a8,am,a7,al,az,ak,a9,ao,aq,af,ae,ag,au,ay,Int.toNat_natCast,decide_true];rw[e];rfl
 ·rw[if_neg h];simp(disch:=omega)only[b7,dk,ba,aj,ai,ar,ax,bc,a8,am,a7,al,az,ak,a9,ao,aq,af,ae,ag,au,ay,Int.toNat_natCast,decide_true]
def psR(T:Array (List Int)×Bool):Rw⊕(Bool×Rw)→Prop
 | .inl d=>T=(d.toArray,false)
 | .inr r=>T=(r.2.toArray,r.1)
theorem j16(a b:Nat)(d:Rw)(hd:Sh d)(hab:a<b)(hb:b≤d.length)(hl:d.length≤1000000):
  ∃o,kl (a:Int) (b:Int) (((a+1:Nat):Int),0,d)=some o∧psR (Sort.partialInsertionSort d5 d.toArray a b) o:=by
 unfold Sort.partialInsertionSort;generalize hT:Sort.partialIns d5 a b 5 (a+1) d.toArray=T;refine ju (fun(st:Int×Int×Rw)=>∃i s:Nat,st.1=(i:Int)∧st.2.1=5-(s:Int)∧s≤5∧a+1≤i∧i≤b∧Sh st.2.2∧st.2.2.length=d.length∧Sort.partialIns d5 a b s i st.2.2.toArray=T) (fun st=>(5-st.2.1).toNat) (psR T) _ ⟨a+1,5,rfl,rfl,Nat.le_refl _,Nat.le_refl _,hab,hd,rfl,hT⟩ (by show((5:Int)-0).toNat<many;unfold many;omega) ?_;rintro⟨_,_,c⟩ ⟨i,s,rfl,rfl,hs,hi,hib,hc,hcl,hT⟩;have hc:Sh c:=hc;have hcl:c.length=d.length:=hcl;have hT:Sort.partialIns d5 a b s i c.toArray=T:=hT;cases s with
 |zero=>
  refine⟨.done c,?_,hT.symm⟩;have:¬(5:Int)-((0:Nat):Int)<5:=by omega
  simp(disch:=omega)only[b7,cd,ba,aj,ai,ar,ax,bc,a8,am,a7,al,az,ak,a9,ao,aq,af,ae,ag,au,ay,Int.toNat_natCast,decide_true]
 |succ s=>
  have e1:=j17 (a:Int) (5-((s+1:Nat):Int)) b c hc (by omega) (by omega) i (by omega);obtain⟨g1,g2⟩:=jne c.toArray b _ i rfl;rw[Sort.partialIns]at hT;generalize Sort.scanSorted d5 c.toArray b i=k at e1 g1 g2 hT;simp only[]at hT;have hk:k≤b:=by omega
  have h5:(5:Int)-((s+1:Nat):Int)<5:=by omega
  have e5:(5:Int)-((s+1:Nat):Int)+1=5-(s:Int):=by omega
  by_cases hkb:k=b
  ·rw[if_pos hkb]at hT;have hkb' :(k:Int)=(b:Int):=by omega
   refine⟨.ret (true,c),?_,hT.symm⟩;simp only[cd,e1,ag,au];simp(disch:=omega)only[b7,ba,aj,ai,ar,ax,bc,a8,am,a7,al,az,ak,a9,ao,aq,af,ae,ag,au,ay,Int.toNat_natCast,decide_true]
  ·rw[if_neg hkb]at hT;by_cases h50:b-a<50
   ·rw[if_pos h50]at hT;refine⟨.ret (false,c),?_,hT.symm⟩;have hne:¬(k:Int)=(b:Int):=by omega
    simp only[cd,e1,ag,au];simp(disch:=omega)only[b7,ba,aj,ai,ar,ax,bc,a8,am,a7,al,az,ak,a9,ao,aq,af,ae,ag,au,ay,Int.toNat_natCast,decide_true]
   ·rw[if_neg h50,m6]at hT;obtain⟨q,rfl⟩:∃q,k=q+1:=⟨k-1,by omega⟩;rw[Nat.add_sub_cancel]at hT;have hne:¬((q+1:Nat):Int)=(b:Int):=by omega
    have e3:((q+1:Nat):Int)-1=(q:Int):=by omega
    have hsw:=qee hc (q+1) q;have hswl:=pj c (q+1) q;by_cases h2:q+1-a≥2
    ·rw[if_pos h2]at hT;have e4:=j15 (a:Int) (b:Int) ((q+1:Nat):Int) (5-((s+1:Nat):Int)) q (swL c (q+1) q) hsw (by omega) (by omega);obtain⟨m1,m2⟩:=q3x q (swL c (q+1) q) hsw;generalize Sort.shiftDown d5 q (swL c (q+1) q).toArray=D at e4 m1 m2 hT;have e6:=j26 (a:Int) (5-((s+1:Nat):Int)) b (q+1) D.toList m2 (by omega) (by omega) hk;have hsz:(if b-(q+1)≥2 then Sort.shiftUp d5 b (q+1+1) D else D).toList.length=d.length∧Sh (if b-(q+1)≥2 then Sort.shiftUp d5 b (q+1+1) D else D).toList:=by
      split
      ·obtain⟨z1,z2⟩:=jah b _ (q+1+1) D.toList rfl m2;rw[Array.toArray_toList]at z1 z2;exact⟨by omega,z2⟩
      ·exact⟨by omega,m2⟩
     rw[Array.toArray_toList]at e6;refine⟨.next (((q+1:Nat):Int),5-(s:Int),(if b-(q+1)≥2 then Sort.shiftUp d5 b (q+1+1) D else D).toList),?_,⟨q+1,s,rfl,rfl,by omega,by omega,hk,hsz.2,hsz.1,hT⟩,by show((5:Int)-(5-(s:Int))).toNat<((5:Int)-(5-((s+1:Nat):Int))).toNat;omega⟩;simp only[cd,e1,ag,au,e3,Int.toNat_natCast,qkx,e4,e6,List.length_set];simp(disch:=omega)only[b7,ba,aj,ai,ar,ax,bc,a8,am,a7,al,az,ak,a9,ao,aq,af,ae,ag,au,ay,Int.toNat_natCast,decide_true];rw[e5]
    ·rw[if_neg h2]at hT;have e6:=j26 (a:Int) (5-((s+1:Nat):Int)) b (q+1) (swL c (q+1) q) hsw (by omega) (by omega) hk;have hsz:(if b-(q+1)≥2 then Sort.shiftUp d5 b (q+1+1) (swL c (q+1) q).toArray else(swL c (q+1) q).toArray).toList.length=d.length∧Sh (if b-(q+1)≥2 then Sort.shiftUp d5 b (q+1+1) (swL c (q+1) q).toArray else(swL c (q+1) q).toArray).toList:=by
      split
      ·obtain⟨z1,z2⟩:=jah b _ (q+1+1) (swL c (q+1) q) rfl hsw;exact⟨by omega,z2⟩
      ·exact⟨by show(swL c (q+1) q).length=d.length;omega,hsw⟩
     refine⟨.next (((q+1:Nat):Int),5-(s:Int),(if b-(q+1)≥2 then Sort.shiftUp d5 b (q+1+1) (swL c (q+1) q).toArray else(swL c (q+1) q).toArray).toList),?_,⟨q+1,s,rfl,rfl,by omega,by omega,hk,hsz.2,hsz.1,hT⟩,by show((5:Int)-(5-(s:Int))).toNat<((5:Int)-(5-((s+1:Nat):Int))).toNat;omega⟩;simp only[cd,e1,ag,au,e3,Int.toNat_natCast,qkx,e6,List.length_set];simp(disch:=omega)only[b7,ba,aj,ai,ar,ax,bc,a8,am,a7,al,az,ak,a9,ao,aq,af,ae,ag,au,ay,Int.toNat_natCast,decide_true];rw[e5]
theorem zcd(a b:Nat)(d:Rw)(hd:Sh d)(hab:a<b)(hb:b≤d.length)(hl:d.length≤1000000):
  ea (a:Int) (b:Int) d=some ((Sort.partialInsertionSort d5 d.toArray a b).2,(Sort.partialInsertionSort d5 d.toArray a b).1.toList):=by
 obtain⟨o,ho,hp⟩:=j16 a b d hd hab hb hl;unfold ea;rw[bq,aj (by omega) (by omega),ho,ag];cases o with
 |inl d' =>
  have hp:_=(d'.toArray,false):=hp;rw[hp];rfl
 |inr r=>
  have hp:_=(r.2.toArray,r.1):=hp;rw[hp];rfl
theorem jcv(d:Rw)(hd:Sh d)(lo hi a b s:Nat)(ha:lo≤a∧a<hi)(hb:lo≤b∧b<hi)(hh:hi≤d.length)(hl:d.length≤1000000)(hs:s≤100):
  ∃x y s' :Nat,dx d (a:Int) (b:Int) (s:Int)=some ((x:Int),(y:Int),(s' :Int))∧(lo≤x∧x<hi)∧(lo≤y∧y<hi)∧s' ≤s+1:=by
 obtain⟨e1,e2⟩:=qib hd b a;cases hlt:d5 (d.getD b []) (d.getD a [])with
 |true=>
  rw[hlt]at e2;refine⟨b,a,s+1,?_,hb,ha,Nat.le_refl _⟩;simp only[dx,Int.toNat_natCast,e1,ag,e2];simp(disch:=omega)only[b7,ba,aj,ai,ar,ax,bc,a8,am,a7,al,az,ak,a9,ao,aq,af,ae,ag,au,ay,Int.toNat_natCast,decide_true];rw[bq]
 |false=>
  rw[hlt]at e2;refine⟨a,b,s,?_,ha,hb,by omega⟩;simp only[dx,Int.toNat_natCast,e1,ag,e2];simp(disch:=omega)only[b7,ba,aj,ai,ar,ax,bc,a8,am,a7,al,az,ak,a9,ao,aq,af,ae,ag,au,ay,Int.toNat_natCast,decide_true]
theorem jcq(d:Rw)(hd:Sh d)(lo hi a b c s:Nat)(ha:lo≤a∧a<hi)(hb:lo≤b∧b<hi)(hc:lo≤c∧c<hi)(hh:hi≤d.length)(hl:d.length≤1000000)(hs:s≤50):
  ∃x s' :Nat,dv d (a:Int) (b:Int) (c:Int) (s:Int)=some ((x:Int),(s' :Int))∧(lo≤x∧x<hi)∧s' ≤s+3:=by
 obtain⟨x1,y1,s1,e1,p1,q1,r1⟩:=jcv d hd lo hi a b s ha hb hh hl (by omega);obtain⟨x2,y2,s2,e2,p2,q2,r2⟩:=jcv d hd lo hi y1 c s1 q1 hc hh hl (by omega);obtain⟨x3,y3,s3,e3,p3,q3,r3⟩:=jcv d hd lo hi x1 x2 s2 p1 p2 hh hl (by omega);refine⟨y3,s3,?_,q3,by omega⟩;unfold dv;rw[e1,ag];simp only[];rw[e2,ag];simp only[];rw[e3,ag]
theorem qyg(d:Rw)(hd:Sh d)(lo hi a s:Nat)(ha:lo+1≤a∧a+1<hi)(hh:hi≤d.length)(hl:d.length≤1000000)(hs:s≤50):
  ∃x s' :Nat,ct d (a:Int) (s:Int)=some ((x:Int),(s' :Int))∧(lo≤x∧x<hi)∧s' ≤s+3:=by
 obtain⟨k,rfl⟩:∃q,a=q+1:=⟨a-1,by omega⟩;obtain⟨x,s',e,p,q⟩:=jcq d hd lo hi k (k+1) (k+1+1) s (by omega) (by omega) (by omega) hh hl hs;refine⟨x,s',?_,p,q⟩;have e3:((k+1:Nat):Int)-1=(k:Int):=by omega
 unfold ct;rw[e3,bq,aj (by omega) (by omega),aj (by omega) (by omega),e];rfl
theorem jtt(j s:Int):∃h,ed j s=some (.inr (j,h)):=by
 unfold ed jg;cases decide (s=0)<;>cases decide (s=12)<;>exact⟨_,rfl⟩
theorem j9y(d:Rw)(hd:Sh d)(a b:Nat)(hab:a<b)(hb:b≤d.length)(hl:d.length≤1000000):
  ∃(x:Nat) (h:Int),de d (a:Int) (b:Int)=some ((x:Int),h)∧a≤x∧x<b:=by
 have hq:Int.tdiv ((b:Int)-(a:Int)) 4=(((b-a)/4:Nat):Int):=by
  rw[show(b:Int)-(a:Int)=((b-a:Nat):Int) by omega,Int.tdiv_eq_ediv_of_nonneg (by omega)];rfl
 have k1:(a:Int)+(((b-a)/4:Nat):Int)*1=((a+(b-a)/4:Nat):Int):=by omega
 have k2:(a:Int)+(((b-a)/4:Nat):Int)*2=((a+(b-a)/4*2:Nat):Int):=by omega
 have k3:(a:Int)+(((b-a)/4:Nat):Int)*3=((a+(b-a)/4*3:Nat):Int):=by omega
 unfold de;rw[hq,k1,k2,k3];by_cases h8:b-a<8
 ·obtain⟨h,eh⟩:=jtt ((a+(b-a)/4*2:Nat):Int) 0;refine⟨a+(b-a)/4*2,h,?_,by omega,by omega⟩;have:¬(8:Int)≤(b:Int)-(a:Int):=by omega
  simp(disch:=omega)only[b7,ba,aj,ai,ar,ax,bc,a8,am,a7,al,az,ak,a9,ao,aq,af,ae,ag,au,ay,Int.toNat_natCast,decide_true];rw[eh];rfl
 ·by_cases h50:b-a<50
  ·obtain⟨x,s,e,p,q⟩:=jcq d hd a b (a+(b-a)/4) (a+(b-a)/4*2) (a+(b-a)/4*3) 0 (by omega) (by omega) (by omega) hb hl (by omega);obtain⟨h,eh⟩:=jtt (x:Int) (s:Int);refine⟨x,h,?_,p⟩;have:(8:Int)≤(b:Int)-(a:Int):=by omega
   have:¬(50:Int)≤(b:Int)-(a:Int):=by omega
   simp(disch:=omega)only[b7,ba,aj,ai,ar,ax,bc,a8,am,a7,al,az,ak,a9,ao,aq,af,ae,ag,au,ay,Int.toNat_natCast,decide_true];have e:dv d _ _ _ 0=_:=e;rw[e,ag];simp only[];rw[eh];rfl
  ·obtain⟨x1,s1,e1,p1,q1⟩:=qyg d hd a b (a+(b-a)/4) 0 (by omega) hb hl (by omega);obtain⟨x2,s2,e2,p2,q2⟩:=qyg d hd a b (a+(b-a)/4*2) s1 (by omega) hb hl (by omega);obtain⟨x3,s3,e3,p3,q3⟩:=qyg d hd a b (a+(b-a)/4*3) s2 (by omega) hb hl (by omega);obtain⟨x,s,e,p,q⟩:=jcq d hd a b x1 x2 x3 s3 p1 p2 p3 hb hl (by omega);obtain⟨h,eh⟩:=jtt (x:Int) (s:Int);refine⟨x,h,?_,p⟩;have:(8:Int)≤(b:Int)-(a:Int):=by omega
   have:(50:Int)≤(b:Int)-(a:Int):=by omega
   simp(disch:=omega)only[b7,ba,aj,ai,ar,ax,bc,a8,am,a7,al,az,ak,a9,ao,aq,af,ae,ag,au,ay,Int.toNat_natCast,decide_true];have e1:ct d _ 0=_:=e1;rw[e1,ag];simp only[];rw[e2,ag];simp only[];rw[e3,ag];simp only[];rw[e,ag];simp only[];rw[eh];rfl
end Go.Proofs.YtclbndfjhjladaaGreat
