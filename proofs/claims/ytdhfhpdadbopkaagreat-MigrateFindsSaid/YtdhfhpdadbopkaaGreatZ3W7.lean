/-
  Siphon: firing in full, keys of markings, markings that were met.
-/
import Derived.Test.YtdhfhpdadbopkaaGreatZ3W5
set_option linter.all false
namespace Go.Proofs.YtdhfhpdadbopkaaGreat
open Go.K Go.M
def uz(T:af)(m:List Int):List Int:=ic 1 T.2.2.1 (ic (-1) T.2.1 m)
def bm(n:a7)(m:List Int)(t:Nat):Int×List Int:=
 bif wn (n.2.1.getD t af.z) m then(bif (uz (n.2.1.getD t af.z) m).any (fun k=>decide (100<k))then(5,[])else(0,uz (n.2.1.getD t af.z) m))else(12,[])
structure FireF (n : a7) (m : List Int) (T : af) : Prop where
 i1 : ∀ p ∈ T.2.1, 0 ≤ p ∧ p < m.length
 s1 : T.2.1.Pairwise (· < ·)
 i2 : ∀ p ∈ T.2.2.1, 0 ≤ p ∧ p < m.length
 s2 : T.2.2.1.Pairwise (· < ·)
 l1 : T.2.1.length ≤ 60
 l2 : T.2.2.1.length ≤ 60
 mb : ∀ i, i < m.length → 0 ≤ m.getD i 0 ∧ m.getD i 0 ≤ 100
 ml : (m.length : Int) = n.1
 N : 1 ≤ n.1 ∧ n.1 ≤ 40
theorem jd5{n:a7}(h:Small n)(hv:bu n=true){m:List Int}(hm:bq n.1 m=true){t:Nat}(ht:t<n.2.1.length):FireF n m (n.2.1.getD t af.z):=by
 obtain⟨hml,hmb⟩:=qdp.1 hm;have hN:1≤n.1∧n.1≤40:=by
  unfold bu at hv;simp only[Bool.and_eq_true,decide_eq_true_eq]at hv;exact hv.1.1.1.1
 have hmem:n.2.1.getD t af.z∈n.2.1:=au af.z ht;obtain⟨hs1,hs2⟩:=q3i hv hmem;have hi:=h.ins _ hmem;have ho:=h.outs _ hmem;obtain⟨hb1,hp1⟩:=qm0.1 hs1;obtain⟨hb2,hp2⟩:=qm0.1 hs2;exact⟨fun p hp=>by have:=hb1 p hp;omega,hp1,fun p hp=>by have:=hb2 p hp;omega,hp2,hi,ho,hmb,hml,hN⟩
section
variable {n : a7} {m : List Int} {T : af} (F : FireF n m T)
include F
theorem FireF.len1:(ic (-1) T.2.1 m).length=m.length:=qbp _ _ _
theorem FireF.len:(uz T m).length=m.length:=(qbp _ _ _).trans (qbp _ _ _)
theorem FireF.at1(q:Nat):(ic (-1) T.2.1 m).getD q 0=m.getD q 0+(if(q:Int)∈T.2.1 then-1 else 0):=qhz (-1) T.2.1 m F.s1 F.i1 q
theorem FireF.i2' :∀p∈T.2.2.1,0≤p∧p<(ic (-1) T.2.1 m).length:=fun p hp=>by have:=F.i2 p hp;have:=F.len1;omega
theorem FireF.at_(q:Nat):(uz T m).getD q 0=m.getD q 0+(if(q:Int)∈T.2.1 then-1 else 0)+(if(q:Int)∈T.2.2.1 then 1 else 0):=by
 have:=qhz 1 T.2.2.1 (ic (-1) T.2.1 m) F.s2 F.i2' q;unfold uz;rw[this,F.at1]
theorem FireF.can(hc:wn T m=true):∀p∈T.2.1,1≤m.getD p.toNat 0:=fun p hp=>by
 unfold wn at hc;rw[Bool.not_eq_true',List.any_eq_false]at hc;have hpb:=F.i1 p hp;have:=F.mb p.toNat (by omega);have:¬m.getD p.toNat 0=0:=by simpa using hc p hp
 omega
theorem FireF.nn(hc:wn T m=true)(i:Nat)(hi:i<m.length):0≤(uz T m).getD i 0∧(uz T m).getD i 0≤101:=by
 rw[F.at_];have h5:=F.mb i hi;by_cases hin:(i:Int)∈T.2.1
 ·have:=F.can hc _ hin;rw[Int.toNat_natCast]at this;rw[if_pos hin];split<;>omega
 ·rw[if_neg hin];split<;>omega
end
theorem q0c{n:a7}(h:Small n)(hv:bu n=true){m:List Int}(hm:bq n.1 m=true){t:Nat}(ht:t<n.2.1.length)(h0:(bm n m t).1=0):bq n.1 (bm n m t).2=true:=by
 have F:=jd5 h hv hm ht;unfold bm at h0⊢;cases hc:wn (n.2.1.getD t af.z) m with
 |false=>rw[hc]at h0;exact absurd (show(12:Int)=0 from h0) (by decide)
 |true=>
  rw[hc]at h0;cases ha:(uz (n.2.1.getD t af.z) m).any (fun k=>decide (100<k))with
  |true=>rw[ha]at h0;exact absurd (show(5:Int)=0 from h0) (by decide)
  |false=>
   show bq n.1 (uz (n.2.1.getD t af.z) m)=true;refine qdp.2 ⟨by rw[F.len];exact F.ml,fun i hi=> ?_⟩;rw[F.len]at hi;have h1:=F.nn hc i hi;rw[List.any_eq_false]at ha;have h2:=ha _ (au 0 (show i<(uz (n.2.1.getD t af.z) m).length by rw[F.len];exact hi));have h2:¬(100:Int)<(uz (n.2.1.getD t af.z) m).getD i 0:=by simpa using h2
   omega
theorem jdm{n:a7}(h:Small n)(hv:bu n=true){m:List Int}(hm:bq n.1 m=true){t:Nat}(ht:t<n.2.1.length):qav n m (t:Int)=some (bm n m t):=by
 have F:=jd5 h hv hm ht;have hN:=F.N;have hml:=F.ml;have hp:lw n m=some true:=by rw[wb h m (by omega),hv,hm];rfl
 unfold qav oa bm;rw[hp,Int.toNat_natCast];generalize n.2.1.getD t af.z=T at F;have e1:=qz9 T m (by have:=F.l1;omega) F.i1;cases hc:wn T m with
 |false=>
  rw[hc]at e1;simp(disch:=omega)only[e1,Bool.not_true,Bool.not_false,rs]
 |true=>
  rw[hc]at e1;have e2:=jfq T.1 T.2.1 T.2.2.1 m (by have:=F.l1;omega) F.s1 F.i1 (fun i hi=>by have:=F.mb i hi;omega);have hlen1:=F.len1;have e3:=jfr T.2.2.1 (ic (-1) T.2.1 m) (by have:=F.l2;omega) F.s2 F.i2' (fun i hi=>by
   have:=F.mb i (by omega);rw[F.at1 i];split<;>omega)
  have hlen:=F.len;have hlen' :(ic 1 T.2.2.1 (ic (-1) T.2.1 m)).length=m.length:=F.len;obtain⟨M,e4,hM1,i,hM2,hM3⟩:=jne (ic 1 T.2.2.1 (ic (-1) T.2.1 m)) (by omega) (by omega);have e5:=qdv m (by omega);by_cases hM:(100:Int)<M
  ·have ha:(uz T m).any (fun k=>decide (100<k))=true:=List.any_eq_true.2 ⟨_,au 0 hM2,by have e:(uz T m).getD i 0=M:=hM3;rw[e];exact decide_eq_true hM⟩;rw[ha];simp(disch:=omega)only[e1,e5,e2,e3,e4,Bool.not_true,rs]
  ·have ha:(uz T m).any (fun k=>decide (100<k))=false:=List.any_eq_false.2 fun k hk=>by
    obtain⟨j,hj,rfl⟩:=ov 0 hk;have:=hM1 j hj;have hh:¬(100:Int)<(uz T m).getD j 0:=by show¬(100:Int)<(ic 1 T.2.2.1 (ic (-1) T.2.1 m)).getD j 0;omega
    simpa using hh
   rw[ha];simp(disch:=omega)only[e1,e5,e2,e3,e4,Bool.not_true,rs];rfl
theorem q54{n:a7}{m:List Int}{t:Nat}(ht:t<n.2.1.length)(F:FireF n m (n.2.1.getD t af.z)):qdr n m (t:Int)=some (wn (n.2.1.getD t af.z) m):=by
 have hl:=F.l1;have hL:qxa m (t:Int) n.1 n.2.1 n.2.2.1 n.2.2.2.1 0=some (bif (n.2.1.getD t af.z).2.1.any (fun p=>decide (m.getD p.toNat 0=0))then .inr false else .inl ()):=by
  refine kc (n.2.1.getD t af.z).2.1 0 (fun p=>decide (m.getD p.toNat 0=0)) false (by omega) (fun i hi=> ?_) ?_
  ·have hb:=F.i1 _ (au 0 hi);have hq:=F.mb ((n.2.1.getD t af.z).2.1.getD i 0).toNat (by omega);by_cases h0:m.getD ((n.2.1.getD t af.z).2.1.getD i 0).toNat 0=0
   ·rw[decide_eq_true h0];simp(disch:=omega)only[y3,rs]
   ·rw[decide_eq_false h0];simp(disch:=omega)only[y3,rs];rw[ai]
  ·simp(disch:=omega)only[y3,rs]
 unfold qdr wn;rw[hL,ah];cases(n.2.1.getD t af.z).2.1.any (fun p=>decide (m.getD p.toNat 0=0))<;>rfl
theorem q43(c:Int)(l:List Int)(i:Nat)(hi:i<l.length)(m:List Int):ic c (l.take (i+1)) m=(ic c (l.take i) m).set (l.getD i 0).toNat ((ic c (l.take i) m).getD (l.getD i 0).toNat 0+c):=by
 unfold ic;rw[a8 l i 0 hi,List.foldl_append];rfl
theorem jek{l:List Int}(h:l.Pairwise (·<·))(i:Nat):(l.take i).Pairwise (·<·):=h.sublist (List.take_sublist i l)
theorem qey{n:a7}(h:Small n)(hv:bu n=true){m:List Int}(hm:bq n.1 m=true){t:Nat}(ht:t<n.2.1.length):gg n m (t:Int)=some (bm n m t):=by
 have F:=jd5 h hv hm ht;have hN:=F.N;have hml:=F.ml;have hvv:=qb4 h;have hmm:=qu n m (by omega);rw[hv]at hvv;rw[hm]at hmm;have ec:=q54 ht F;unfold gg bm;cases hc:wn (n.2.1.getD t af.z) m with
 |false=>
  rw[hc]at ec;simp(disch:=omega)only[hvv,hmm,ec,Bool.not_true,Bool.not_false,rs]
 |true=>
  rw[hc]at ec;have hl1:=F.l1;have hl2:=F.l2;have h0:qso (t:Int) n.1 n.2.1 n.2.2.1 n.2.2.2.1 (0,m)=some (.inl (ic (-1) (n.2.1.getD t af.z).2.1 m)):=by
   have e:ic (-1) (n.2.1.getD t af.z).2.1 m=ic (-1) ((n.2.1.getD t af.z).2.1.take (n.2.1.getD t af.z).2.1.length) m:=by rw[List.take_length]
   rw[e];refine f9 (fun i:Nat=>((i:Int),ic (-1) ((n.2.1.getD t af.z).2.1.take i) m)) (n.2.1.getD t af.z).2.1.length (cr (by omega)) _ (fun i hi=> ?_) ?_ _ rfl
   ·have hb:=F.i1 _ (au 0 hi);have hq:=F.mb ((n.2.1.getD t af.z).2.1.getD i 0).toNat (by omega);have hlen:(ic (-1) ((n.2.1.getD t af.z).2.1.take i) m).length=m.length:=qbp _ _ _;have hat:=qhz (-1) ((n.2.1.getD t af.z).2.1.take i) m (jek F.s1 i) (fun p hp=>F.i1 p (List.mem_of_mem_take hp)) ((n.2.1.getD t af.z).2.1.getD i 0).toNat;have hbd: -1≤(ic (-1) ((n.2.1.getD t af.z).2.1.take i) m).getD ((n.2.1.getD t af.z).2.1.getD i 0).toNat 0∧(ic (-1) ((n.2.1.getD t af.z).2.1.take i) m).getD ((n.2.1.getD t af.z).2.1.getD i 0).toNat 0≤100:=by
     rw[hat];split<;>omega
    rw[q43 (-1) _ i hi];simp(disch:=omega)only[qbg,hlen,rs];rw[ai];rfl
   ·simp(disch:=omega)only[qbg,rs]
  have h1:qsp (t:Int) n.1 n.2.1 n.2.2.1 n.2.2.2.1 (0,ic (-1) (n.2.1.getD t af.z).2.1 m)=some (.inl (uz (n.2.1.getD t af.z) m)):=by
   have e:uz (n.2.1.getD t af.z) m=ic 1 ((n.2.1.getD t af.z).2.2.1.take (n.2.1.getD t af.z).2.2.1.length) (ic (-1) (n.2.1.getD t af.z).2.1 m):=by rw[List.take_length];rfl
   have hl0:=F.len1;rw[e];refine f9 (fun i:Nat=>((i:Int),ic 1 ((n.2.1.getD t af.z).2.2.1.take i) (ic (-1) (n.2.1.getD t af.z).2.1 m))) (n.2.1.getD t af.z).2.2.1.length (cr (by omega)) _ (fun i hi=> ?_) ?_ _ rfl
   ·have hb:=F.i2 _ (au 0 hi);have hq:=F.mb ((n.2.1.getD t af.z).2.2.1.getD i 0).toNat (by omega);have hlen:(ic 1 ((n.2.1.getD t af.z).2.2.1.take i) (ic (-1) (n.2.1.getD t af.z).2.1 m)).length=m.length:=(qbp _ _ _).trans hl0;have hat:=qhz 1 ((n.2.1.getD t af.z).2.2.1.take i) (ic (-1) (n.2.1.getD t af.z).2.1 m) (jek F.s2 i) (fun p hp=>F.i2' p (List.mem_of_mem_take hp)) ((n.2.1.getD t af.z).2.2.1.getD i 0).toNat;have hat1:=F.at1 ((n.2.1.getD t af.z).2.2.1.getD i 0).toNat;have hbd: -1≤(ic 1 ((n.2.1.getD t af.z).2.2.1.take i) (ic (-1) (n.2.1.getD t af.z).2.1 m)).getD ((n.2.1.getD t af.z).2.2.1.getD i 0).toNat 0∧(ic 1 ((n.2.1.getD t af.z).2.2.1.take i) (ic (-1) (n.2.1.getD t af.z).2.1 m)).getD ((n.2.1.getD t af.z).2.2.1.getD i 0).toNat 0≤101:=by
     rw[hat,hat1];split<;>split<;>omega
    rw[q43 1 _ i hi];simp(disch:=omega)only[qbh,hlen,rs];rw[ai]
   ·simp(disch:=omega)only[qbh,rs]
  have hlen:=F.len;have h2:=qu n (uz (n.2.1.getD t af.z) m) (by omega);have ha:bq n.1 (uz (n.2.1.getD t af.z) m)= !(uz (n.2.1.getD t af.z) m).any (fun k=>decide (100<k)):=by
   unfold bq;rw[decide_eq_true (by omega),Bool.true_and];refine congrArg (!·) ?_;rw[Bool.eq_iff_iff,List.any_eq_true,List.any_eq_true];constructor
   ·rintro⟨k,hk,hb⟩;refine⟨k,hk,?_⟩;obtain⟨j,hj,rfl⟩:=ov 0 hk;have:=F.nn hc j (by omega);unfold qts at hb;simp only[Bool.or_eq_true,decide_eq_true_eq]at hb;exact decide_eq_true (by omega)
   ·rintro⟨k,hk,hb⟩;exact⟨k,hk,by unfold qts;rw[hb,Bool.or_true]⟩
  rw[ha]at h2;have hap:([]:List Int)++m=m:=rfl;cases hd:(uz (n.2.1.getD t af.z) m).any (fun k=>decide (100<k))with
  |true=>
   rw[hd]at h2;simp(disch:=omega)only[hvv,hmm,ec,h0,h1,h2,hap,Bool.not_true,Bool.not_false,rs]
  |false=>
   rw[hd]at h2;simp(disch:=omega)only[hvv,hmm,ec,h0,h1,h2,hap,Bool.not_true,Bool.not_false,rs]
theorem ji7{a b:ByteArray}(h:ge a b=true):a=b:=by
 have h1:(a.data==b.data)=true:=h;have h2:a.data=b.data:=beq_iff_eq.1 h1;cases a;cases b;congr
theorem qa6(a:ByteArray):ge a a=true:=by
 show(a.data==a.data)=true;exact beq_self_eq_true _
theorem mi{a b:ByteArray}:ge a b=true↔a=b:=⟨ji7,fun h=>by rw[h];exact qa6 b⟩
theorem qne{β:Type}(k k' :ByteArray)(x:β):∀(l:List (ByteArray×β)),ls .str k (tf .str k' x l)=bif ge k k' then some x else ls .str k l
 |[]=>rfl
 |e::l=>by
  show ls .str k (bif ge k' e.1 then(k',x)::l else e::tf .str k' x l)=bif ge k k' then some x else bif ge k e.1 then some e.2 else ls .str k l;cases h:ge k' e.1 with
  |true=>
   have he:k' =e.1:=mi.1 h;show(bif ge k k' then some x else ls .str k l)=_;rw[←he];cases ge k k' <;>rfl
  |false=>
   show(bif ge k e.1 then some e.2 else ls .str k (tf .str k' x l))=_;rw[qne k k' x l];cases h1:ge k e.1 with
   |false=>rfl
   |true=>
    cases h2:ge k k' with
    |false=>rfl
    |true=>
     have:ge k' e.1=true:=mi.2 ((mi.1 h2).symm.trans (mi.1 h1));rw[this]at h;cases h
end Go.Proofs.YtdhfhpdadbopkaaGreat
