/-
  Coverability: markings with Omega, firing, and the comparison of markings.
-/
import Derived.Test.YtemahcdcacmgdaaGreatDoorZ3A1
set_option linter.all false
namespace Go.Proofs.YtemahcdcacmgdaaGreatDoor
open Go.K Go.M
def mor(x c:Int):Int:=if x= -1 then x else x+c
theorem jnq{x c:Int}(h: -1000≤x∧x≤1000)(hc: -1≤c∧c≤1):qgp x c=some (mor x c):=by
 unfold qgp mor;by_cases hx:x= -1
 ·rw[if_pos hx,jko hx]
 ·rw[if_neg hx,jeq hx,jev (by omega) (by omega)]
def qci(c:Int)(l m:List Int):List Int:=l.foldl (fun m p=>m.set p.toNat (mor (m.getD p.toNat 0) c)) m
theorem qgf(c:Int):∀(l m:List Int),(qci c l m).length=m.length
 |[],m=>rfl
 |p::l,m=>by
  show(qci c l (m.set p.toNat _)).length=_;rw[qgf c l,List.length_set]
theorem q6l(c:Int):∀(l m:List Int),l.Pairwise (·<·)→(∀p∈l,0≤p∧p<m.length)→∀q:Nat,(qci c l m).getD q 0=if(q:Int)∈l then mor (m.getD q 0) c else m.getD q 0
 |[],m,_,_,q=>by simp[qci]
 |p::l,m,hs,hb,q=>by
  obtain⟨h1,h2⟩:=List.pairwise_cons.1 hs;have hp:=hb p List.mem_cons_self;have ih:=q6l c l (m.set p.toNat (mor (m.getD p.toNat 0) c)) h2 (fun x hx=>by rw[List.length_set];exact hb x (List.mem_cons_of_mem _ hx)) q;show(qci c l (m.set p.toNat (mor (m.getD p.toNat 0) c))).getD q 0=_;rw[ih];by_cases hq:(q:Int)=p
  ·have e:p.toNat=q:=by omega
   have hno:(q:Int)∉l:=fun hc=>by have:=h1 _ hc;omega
   rw[if_neg hno,if_pos (by rw[hq];exact List.mem_cons_self),e,List.getD_eq_getElem?_getD,List.getElem?_set_self (by omega)];rfl
  ·have e:p.toNat≠q:=by omega
   have hiff:(q:Int)∈p::l↔(q:Int)∈l:=⟨fun hc=>(List.mem_cons.1 hc).resolve_left hq,List.mem_cons_of_mem _⟩;rw[List.getD_eq_getElem?_getD,List.getElem?_set_ne e,←List.getD_eq_getElem?_getD];by_cases hl:(q:Int)∈l
   ·rw[if_pos hl,if_pos (hiff.2 hl)]
   ·rw[if_neg hl,if_neg fun h=>hl (hiff.1 h)]
def ExB(N:Int)(m:List Int):Prop:=(m.length:Int)=N∧∀i,i<m.length→-1≤m.getD i 0∧m.getD i 0≤100
theorem ExB.of{N:Int}{m:List Int}(h:ch N m=true):ExB N m:=by
 obtain⟨h1,h2⟩:=d7.1 h;exact⟨h1,fun i hi=>by have:=h2 i hi;omega⟩
structure Tr (N : Int) (T : ah) : Prop where
 i1 : ∀ p ∈ T.2.1, 0 ≤ p ∧ p < N
 s1 : T.2.1.Pairwise (· < ·)
 i2 : ∀ p ∈ T.2.2.1, 0 ≤ p ∧ p < N
 s2 : T.2.2.1.Pairwise (· < ·)
 l1 : T.2.1.length ≤ 60
 l2 : T.2.2.1.length ≤ 60
theorem jot{n:b8}(h:Small n)(hv:dp n=true){t:Nat}(ht:t<n.2.1.length):Tr n.1 (li n t):=by
 have hm:=ba ah.z ht;obtain⟨h1,h2⟩:=qwq hv hm;exact⟨(qhm.1 h1).1,(qhm.1 h1).2,(qhm.1 h2).1,(qhm.1 h2).2,h.ins _ hm,h.outs _ hm⟩
theorem jhr{N:Int}{T:ah}(F:Tr N T){m:List Int}(hm:(m.length:Int)=N):qdi T m=some (ge T m):=by
 have hl:=F.l1;have hL:pi T.2.1 m (T.2.1.length:Int) 0=some (jfh (fun i=>(i:Int)) (me (fun p=>decide (m.getD p.toNat 0=0)) T.2.1)):=by
  refine ya T.2.1 0 (fun p=>decide (m.getD p.toNat 0=0)) (fun i=>(i:Int)) (by omega) (fun i hi=> ?_) ?_
  ·have:=F.i1 _ (ba 0 hi);simp(disch:=omega)only[ek,qe3,rs];rw[al];cases decide (m.getD (T.2.1.getD i 0).toNat 0=0)<;>rfl
  ·simp(disch:=omega)only[ek,rs]
 unfold qdi gq ji ge;rw[hL,bi,qnq,bi,bi,qnp]
def k6(T:ah)(m:List Int):List Int:=qci 1 T.2.2.1 (qci (-1) T.2.1 m)
theorem qte(T:ah)(m:List Int):(k6 T m).length=m.length:=(qgf _ _ _).trans (qgf _ _ _)
section
variable {N : Int} {T : ah} {m : List Int} (F : Tr N T) (hm : ExB N m)
include F hm
theorem jr2(hc:ge T m=true){q:Nat}(hq:(q:Int)∈T.2.1):m.getD q 0= -1∨1≤m.getD q 0:=by
 unfold ge at hc;rw[Bool.not_eq_true',List.any_eq_false]at hc;have h1:=hc _ hq;have h2:=F.i1 _ hq;have h3:=hm.2 q (by have:=hm.1;omega);simp only[Int.toNat_natCast,decide_eq_true_eq]at h1;omega
theorem jh2(q:Nat):(qci (-1) T.2.1 m).getD q 0=if(q:Int)∈T.2.1 then mor (m.getD q 0) (-1)else m.getD q 0:=q6l _ _ _ F.s1 (fun p hp=>by have:=F.i1 p hp;have:=hm.1;omega) q
theorem qx4(hc:ge T m=true)(q:Nat):(k6 T m).getD q 0=if m.getD q 0= -1 then-1 else m.getD q 0+(if(q:Int)∈T.2.1 then-1 else 0)+(if(q:Int)∈T.2.2.1 then 1 else 0):=by
 unfold k6;rw[q6l _ _ _ F.s2 (fun p hp=>by have:=F.i2 p hp;have:=hm.1;have:=qgf (-1) T.2.1 m;omega) q,jh2 F hm];have:=fun h=>jr2 F hm hc (q:=q) h
 unfold mor;split<;>split<;>split<;>(try split)<;>first|omega|(exfalso;rename_i h1 _ _;have:=this ‹_›;omega)|skip
 all_goals (have h5:=this ‹_›;omega)
theorem jh4(hc:ge T m=true)(q:Nat)(hq:q<m.length): -1≤(k6 T m).getD q 0∧(k6 T m).getD q 0≤101∧((k6 T m).getD q 0= -1↔m.getD q 0= -1):=by
 rw[qx4 F hm hc];have h1:=hm.2 q hq;by_cases h2:m.getD q 0= -1
 ·rw[if_pos h2];exact⟨by omega,by omega,fun _=>h2,fun _=>rfl⟩
 ·rw[if_neg h2];have:=fun h=>jr2 F hm hc (q:=q) h
  by_cases h3:(q:Int)∈T.2.1
  ·have:=this h3;rw[if_pos h3];split<;>exact⟨by omega,by omega,by omega,by omega⟩
  ·rw[if_neg h3];split<;>exact⟨by omega,by omega,by omega,by omega⟩
end
theorem jcn(c:Int)(l m:List Int){i:Nat}(hi:i<l.length):qci c (l.take (i+1)) m=(qci c (l.take i) m).set (l.getD i 0).toNat (mor ((qci c (l.take i) m).getD (l.getD i 0).toNat 0) c):=by
 rw[ff l i 0 hi];unfold qci;rw[List.foldl_append];rfl
theorem jml(c:Int)(hc: -1≤c∧c≤1)(l m:List Int)(hs:l.Pairwise (·<·))(hb:∀p∈l,0≤p∧p<m.length)(hm:∀i,-500≤m.getD i 0∧m.getD i 0≤500)(i q:Nat): -1000≤(qci c (l.take i) m).getD q 0∧(qci c (l.take i) m).getD q 0≤1000:=by
 rw[q6l c _ m (hs.sublist (List.take_sublist _ _)) (fun p hp=>hb p (List.mem_of_mem_take hp))];have:=hm q;unfold mor;split<;>(try split)<;>omega
theorem jne{m:List Int}{a b:Int}(ha:a≤0)(hb:0≤b)(h:∀i,i<m.length→a≤m.getD i 0∧m.getD i 0≤b)(i:Nat):a≤m.getD i 0∧m.getD i 0≤b:=by
 by_cases hi:i<m.length
 ·exact h i hi
 ·rw[List.getD_eq_getElem?_getD,List.getElem?_eq_none (by omega)];exact⟨ha,hb⟩
def jer(m:List Int):Bool:=m.any fun k=>decide (100<k)
theorem jr6{N:Int}{T:ah}(F:Tr N T){m:List Int}(hm:ExB N m)(hN:1≤N∧N≤40)(hc:ge T m=true):qmw T m=some (!jer (k6 T m),k6 T m):=by
 have hml:=hm.1;have h1l:=F.l1;have h2l:=F.l2;have b1:∀p∈T.2.1,0≤p∧p<m.length:=fun p hp=>by have:=F.i1 p hp;omega
 have e1:=qgf (-1) T.2.1 m;have b2:∀p∈T.2.2.1,0≤p∧p<(qci (-1) T.2.1 m).length:=fun p hp=>by have:=F.i2 p hp;omega
 have m0:∀i,-500≤m.getD i 0∧m.getD i 0≤500:=jne (by omega) (by omega) fun i hi=>by have:=hm.2 i hi;omega
 have m1:∀i,-500≤(qci (-1) T.2.1 m).getD i 0∧(qci (-1) T.2.1 m).getD i 0≤500:=fun i=>by
  rw[jh2 F hm];have:=jne (a:= -1) (b:=100) (by omega) (by omega) hm.2 i;unfold mor;split<;>(try split)<;>omega
 have g1:qxk T.2.1 (T.2.1.length:Int) T.1 T.2.1 T.2.2.1 (0,m)=some (.inl (qci (-1) T.2.1 m)):=by
  have e:qci (-1) T.2.1 m=qci (-1) (T.2.1.take T.2.1.length) m:=by rw[List.take_length]
  rw[e];refine ct (fun i:Nat=>((i:Int),qci (-1) (T.2.1.take i) m)) T.2.1.length (bw (by omega)) _ (fun i hi=> ?_) ?_ _ rfl
  ·have hp:=b1 _ (ba 0 hi);have hlen:=qgf (-1) (T.2.1.take i) m;have hmo:=jnq (jml (-1) (by omega) T.2.1 m F.s1 b1 m0 i (T.2.1.getD i 0).toNat) (c:= -1) (by omega);rw[jcn _ _ _ hi];simp(disch:=omega)only[qdj,hmo,rs];rw[al]
  ·simp(disch:=omega)only[qdj,rs]
 have g2:qxl T.2.2.1 (T.2.2.1.length:Int) (0,qci (-1) T.2.1 m)=some (.inl (k6 T m)):=by
  have e:k6 T m=qci 1 (T.2.2.1.take T.2.2.1.length) (qci (-1) T.2.1 m):=by rw[List.take_length];rfl
  rw[e];refine ct (fun i:Nat=>((i:Int),qci 1 (T.2.2.1.take i) (qci (-1) T.2.1 m))) T.2.2.1.length (bw (by omega)) _ (fun i hi=> ?_) ?_ _ rfl
  ·have hp:=b2 _ (ba 0 hi);have hlen:=qgf 1 (T.2.2.1.take i) (qci (-1) T.2.1 m);have hmo:=jnq (jml 1 (by omega) T.2.2.1 _ F.s2 b2 m1 i (T.2.2.1.getD i 0).toNat) (c:=1) (by omega);rw[jcn _ _ _ hi];simp(disch:=omega)only[qdk,hmo,rs];rw[al]
  ·simp(disch:=omega)only[qdk,rs]
 have hlen:=qte T m;obtain⟨M,hM,hb,i,hi,he⟩:=jrh (k6 T m) (by omega) (by omega);have hbig:decide (M≤100)= !jer (k6 T m):=by
  unfold jer;rw[Bool.eq_iff_iff,decide_eq_true_iff,Bool.not_eq_true',List.any_eq_false];constructor
  ·intro h x hx;obtain⟨j,hj,rfl⟩:=rf 0 hx;have:=hb j hj;simp only[decide_eq_true_eq];omega
  ·intro h;have:=h _ (ba 0 hi);simp only[decide_eq_true_eq]at this;omega
 unfold qmw;rw[lz m (by omega),bi,g1,bi,zk,g2,bi,zk,hM,bi,hbig]
def qtv(x y:List Int):Bool:=(List.range x.length).all fun p=>decide (y.getD p 0= -1)||(!decide (x.getD p 0= -1)&& !decide (y.getD p 0<x.getD p 0))
theorem jhl{x y:List Int}(h:x.length=y.length)(hl:x.length≤1000):qdv x y=some (qtv x y):=by
 have hL:quh x y (x.length:Int) 0=some (bif qtv x y then .inl ()else .inr false):=by
  refine qrs (fun i:Nat=>(i:Int)) x.length (bw (by omega)) _ () false (fun i hi hp=> ?_) (fun i hi hp=> ?_) ?_
  ·by_cases h1:y.getD i 0= -1
   ·simp(disch:=omega)only[j9,rs];rw[al]
   ·rw[decide_eq_false h1]at hp;simp only[Bool.false_or,Bool.and_eq_true,Bool.not_eq_true',decide_eq_false_iff_not]at hp;simp(disch:=omega)only[j9,rs];rw[al]
  ·simp only[Bool.or_eq_false_iff,Bool.and_eq_false_iff,Bool.not_eq_false',decide_eq_true_eq,decide_eq_false_iff_not]at hp;obtain⟨h1,h2⟩:=hp;by_cases h3:x.getD i 0= -1
   ·simp(disch:=omega)only[j9,rs]
   ·have:=h2.resolve_left h3;simp(disch:=omega)only[j9,rs]
  ·simp(disch:=omega)only[j9,rs]
 unfold qdv;rw[hL,bi];cases qtv x y<;>rfl
theorem q69{x y:List Int}:qtv x y=true↔∀p,p<x.length→y.getD p 0= -1∨x.getD p 0≠-1∧x.getD p 0≤y.getD p 0:=by
 unfold qtv;rw[List.all_eq_true];constructor
 ·intro h p hp;have:=h p (List.mem_range.2 hp);simp only[Bool.or_eq_true,Bool.and_eq_true,Bool.not_eq_true',decide_eq_true_eq,decide_eq_false_iff_not]at this;omega
 ·intro h p hp;have:=h p (List.mem_range.1 hp);simp only[Bool.or_eq_true,Bool.and_eq_true,Bool.not_eq_true',decide_eq_true_eq,decide_eq_false_iff_not];omega
def q4w(z y:List Int):List Int:=bg y.length fun p=>if z.getD p 0=y.getD p 0 then y.getD p 0 else-1
end Go.Proofs.YtemahcdcacmgdaaGreatDoor
