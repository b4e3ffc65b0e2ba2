/-
  Siphon: firing in full, keys of markings, markings that were met.
-/
import Derived.Test.YtdhfhpdadbopkaaZ7W5
set_option linter.all false
namespace Go.Proofs.Ytdhfhpdadbopkaa
open Go.K Go.M
def uc(T:af)(m:List Int):List Int:=ii 1 T.2.2.1 (ii (-1) T.2.1 m)
def bj(n:az)(m:List Int)(t:Nat):Int×List Int:=
 bif xj (n.2.1.getD t af.z) m then(bif (uc (n.2.1.getD t af.z) m).any (fun k=>decide (100<k))then(5,[])else(0,uc (n.2.1.getD t af.z) m))else(12,[])
structure FireF (n : az) (m : List Int) (T : af) : Prop where
 i1 : ∀ p ∈ T.2.1, 0 ≤ p ∧ p < m.length
 s1 : T.2.1.Pairwise (· < ·)
 i2 : ∀ p ∈ T.2.2.1, 0 ≤ p ∧ p < m.length
 s2 : T.2.2.1.Pairwise (· < ·)
 l1 : T.2.1.length ≤ 60
 l2 : T.2.2.1.length ≤ 60
 mb : ∀ i, i < m.length → 0 ≤ m.getD i 0 ∧ m.getD i 0 ≤ 100
 ml : (m.length : Int) = n.1
 N : 1 ≤ n.1 ∧ n.1 ≤ 40
theorem jdj{n:az}(h:Small n)(hv:bv n=true){m:List Int}(hm:bu n.1 m=true){t:Nat}(ht:t<n.2.1.length):FireF n m (n.2.1.getD t af.z):=by
 obtain⟨hml,hmb⟩:=qc9.1 hm;have hN:1≤n.1∧n.1≤40:=by
  unfold bv at hv;simp only[Bool.and_eq_true,decide_eq_true_eq]at hv;exact hv.1.1.1.1
 have hmem:n.2.1.getD t af.z∈n.2.1:=aw af.z ht;obtain⟨hs1,hs2⟩:=qzw hv hmem;have hi:=h.ins _ hmem;have ho:=h.outs _ hmem;obtain⟨hb1,hp1⟩:=qln.1 hs1;obtain⟨hb2,hp2⟩:=qln.1 hs2;exact⟨fun p hp=>by have:=hb1 p hp;omega,hp1,fun p hp=>by have:=hb2 p hp;omega,hp2,hi,ho,hmb,hml,hN⟩
section
variable {n : az} {m : List Int} {T : af} (F : FireF n m T)
include F
theorem FireF.len1:(ii (-1) T.2.1 m).length=m.length:=qbb _ _ _
theorem FireF.len:(uc T m).length=m.length:=(qbb _ _ _).trans (qbb _ _ _)
theorem FireF.at1(q:Nat):(ii (-1) T.2.1 m).getD q 0=m.getD q 0+(if(q:Int)∈T.2.1 then-1 else 0):=qg6 (-1) T.2.1 m F.s1 F.i1 q
theorem FireF.i2' :∀p∈T.2.2.1,0≤p∧p<(ii (-1) T.2.1 m).length:=fun p hp=>by have:=F.i2 p hp;have:=F.len1;omega
theorem FireF.at_(q:Nat):(uc T m).getD q 0=m.getD q 0+(if(q:Int)∈T.2.1 then-1 else 0)+(if(q:Int)∈T.2.2.1 then 1 else 0):=by
 have:=qg6 1 T.2.2.1 (ii (-1) T.2.1 m) F.s2 F.i2' q;unfold uc;rw[this,F.at1]
theorem FireF.can(hc:xj T m=true):∀p∈T.2.1,1≤m.getD p.toNat 0:=fun p hp=>by
 unfold xj at hc;rw[Bool.not_eq_true',List.any_eq_false]at hc;have hpb:=F.i1 p hp;have:=F.mb p.toNat (by omega);have:¬m.getD p.toNat 0=0:=by simpa using hc p hp
 omega
theorem FireF.nn(hc:xj T m=true)(i:Nat)(hi:i<m.length):0≤(uc T m).getD i 0∧(uc T m).getD i 0≤101:=by
 rw[F.at_];have h5:=F.mb i hi;by_cases hin:(i:Int)∈T.2.1
 ·have:=F.can hc _ hin;rw[Int.toNat_natCast]at this;rw[if_pos hin];split<;>omega
 ·rw[if_neg hin];split<;>omega
end
theorem qw9{n:az}(h:Small n)(hv:bv n=true){m:List Int}(hm:bu n.1 m=true){t:Nat}(ht:t<n.2.1.length)(h0:(bj n m t).1=0):bu n.1 (bj n m t).2=true:=by
 have F:=jdj h hv hm ht;unfold bj at h0⊢;cases hc:xj (n.2.1.getD t af.z) m with
 |false=>rw[hc]at h0;exact absurd (show(12:Int)=0 from h0) (by decide)
 |true=>
  rw[hc]at h0;cases ha:(uc (n.2.1.getD t af.z) m).any (fun k=>decide (100<k))with
  |true=>rw[ha]at h0;exact absurd (show(5:Int)=0 from h0) (by decide)
  |false=>
   show bu n.1 (uc (n.2.1.getD t af.z) m)=true;refine qc9.2 ⟨by rw[F.len];exact F.ml,fun i hi=> ?_⟩;rw[F.len]at hi;have h1:=F.nn hc i hi;rw[List.any_eq_false]at ha;have h2:=ha _ (aw 0 (show i<(uc (n.2.1.getD t af.z) m).length by rw[F.len];exact hi));have h2:¬(100:Int)<(uc (n.2.1.getD t af.z) m).getD i 0:=by simpa using h2
   omega
theorem q9g{n:az}(h:Small n)(hv:bv n=true){m:List Int}(hm:bu n.1 m=true){t:Nat}(ht:t<n.2.1.length):qab n m (t:Int)=some (bj n m t):=by
 have F:=jdj h hv hm ht;have hN:=F.N;have hml:=F.ml;have hp:ma n m=some true:=by rw[vy h m (by omega),hv,hm];rfl
 unfold qab oh bj;rw[hp,Int.toNat_natCast];generalize n.2.1.getD t af.z=T at F;have e1:=qw5 T m (by have:=F.l1;omega) F.i1;cases hc:xj T m with
 |false=>
  rw[hc]at e1;simp(disch:=omega)only[e1,Bool.not_true,Bool.not_false,rs]
 |true=>
  rw[hc]at e1;have e2:=jbl T.1 T.2.1 T.2.2.1 m (by have:=F.l1;omega) F.s1 F.i1 (fun i hi=>by have:=F.mb i hi;omega);have hlen1:=F.len1;have e3:=jbm T.2.2.1 (ii (-1) T.2.1 m) (by have:=F.l2;omega) F.s2 F.i2' (fun i hi=>by
   have:=F.mb i (by omega);rw[F.at1 i];split<;>omega)
  have hlen:=F.len;have hlen' :(ii 1 T.2.2.1 (ii (-1) T.2.1 m)).length=m.length:=F.len;obtain⟨M,e4,hM1,i,hM2,hM3⟩:=jjl (ii 1 T.2.2.1 (ii (-1) T.2.1 m)) (by omega) (by omega);have e5:=qde m (by omega);by_cases hM:(100:Int)<M
  ·have ha:(uc T m).any (fun k=>decide (100<k))=true:=List.any_eq_true.2 ⟨_,aw 0 hM2,by have e:(uc T m).getD i 0=M:=hM3;rw[e];exact decide_eq_true hM⟩;rw[ha];simp(disch:=omega)only[e1,e5,e2,e3,e4,Bool.not_true,rs]
  ·have ha:(uc T m).any (fun k=>decide (100<k))=false:=List.any_eq_false.2 fun k hk=>by
    obtain⟨j,hj,rfl⟩:=je 0 hk;have:=hM1 j hj;have hh:¬(100:Int)<(uc T m).getD j 0:=by show¬(100:Int)<(ii 1 T.2.2.1 (ii (-1) T.2.1 m)).getD j 0;omega
    simpa using hh
   rw[ha];simp(disch:=omega)only[e1,e5,e2,e3,e4,Bool.not_true,rs];rfl
theorem jb7{n:az}{m:List Int}{t:Nat}(ht:t<n.2.1.length)(F:FireF n m (n.2.1.getD t af.z)):ql5 n m (t:Int)=some (xj (n.2.1.getD t af.z) m):=by
 have hl:=F.l1;have hL:qup m (t:Int) n.1 n.2.1 n.2.2.1 n.2.2.2.1 0=some (bif (n.2.1.getD t af.z).2.1.any (fun p=>decide (m.getD p.toNat 0=0))then .inr false else .inl ()):=by
  refine sc (n.2.1.getD t af.z).2.1 0 (fun p=>decide (m.getD p.toNat 0=0)) false (by omega) (fun i hi=> ?_) ?_
  ·have hb:=F.i1 _ (aw 0 hi);have hq:=F.mb ((n.2.1.getD t af.z).2.1.getD i 0).toNat (by omega);by_cases h0:m.getD ((n.2.1.getD t af.z).2.1.getD i 0).toNat 0=0
   ·rw[decide_eq_true h0];simp(disch:=omega)only[yn,rs]
   ·rw[decide_eq_false h0];simp(disch:=omega)only[yn,rs];rw[aj]
  ·simp(disch:=omega)only[yn,rs]
 unfold ql5 xj;rw[hL,ah];cases(n.2.1.getD t af.z).2.1.any (fun p=>decide (m.getD p.toNat 0=0))<;>rfl
theorem q1l(c:Int)(l:List Int)(i:Nat)(hi:i<l.length)(m:List Int):ii c (l.take (i+1)) m=(ii c (l.take i) m).set (l.getD i 0).toNat ((ii c (l.take i) m).getD (l.getD i 0).toNat 0+c):=by
 unfold ii;rw[bn l i 0 hi,List.foldl_append];rfl
theorem jag{l:List Int}(h:l.Pairwise (·<·))(i:Nat):(l.take i).Pairwise (·<·):=h.sublist (List.take_sublist i l)
theorem qo3{n:az}(h:Small n)(hv:bv n=true){m:List Int}(hm:bu n.1 m=true){t:Nat}(ht:t<n.2.1.length):mw n m (t:Int)=some (bj n m t):=by
 have F:=jdj h hv hm ht;have hN:=F.N;have hml:=F.ml;have hvv:=qbq h;have hmm:=qa6 n m (by omega);rw[hv]at hvv;rw[hm]at hmm;have ec:=jb7 ht F;unfold mw bj;cases hc:xj (n.2.1.getD t af.z) m with
 |false=>
  rw[hc]at ec;simp(disch:=omega)only[hvv,hmm,ec,Bool.not_true,Bool.not_false,rs]
 |true=>
  rw[hc]at ec;have hl1:=F.l1;have hl2:=F.l2;have h0:qq0 (t:Int) n.1 n.2.1 n.2.2.1 n.2.2.2.1 (0,m)=some (.inl (ii (-1) (n.2.1.getD t af.z).2.1 m)):=by
   have e:ii (-1) (n.2.1.getD t af.z).2.1 m=ii (-1) ((n.2.1.getD t af.z).2.1.take (n.2.1.getD t af.z).2.1.length) m:=by rw[List.take_length]
   rw[e];refine nt (fun i:Nat=>((i:Int),ii (-1) ((n.2.1.getD t af.z).2.1.take i) m)) (n.2.1.getD t af.z).2.1.length (dl (by omega)) _ (fun i hi=> ?_) ?_ _ rfl
   ·have hb:=F.i1 _ (aw 0 hi);have hq:=F.mb ((n.2.1.getD t af.z).2.1.getD i 0).toNat (by omega);have hlen:(ii (-1) ((n.2.1.getD t af.z).2.1.take i) m).length=m.length:=qbb _ _ _;have hat:=qg6 (-1) ((n.2.1.getD t af.z).2.1.take i) m (jag F.s1 i) (fun p hp=>F.i1 p (List.mem_of_mem_take hp)) ((n.2.1.getD t af.z).2.1.getD i 0).toNat;have hbd: -1≤(ii (-1) ((n.2.1.getD t af.z).2.1.take i) m).getD ((n.2.1.getD t af.z).2.1.getD i 0).toNat 0∧(ii (-1) ((n.2.1.getD t af.z).2.1.take i) m).getD ((n.2.1.getD t af.z).2.1.getD i 0).toNat 0≤100:=by
     rw[hat];split<;>omega
    rw[q1l (-1) _ i hi];simp(disch:=omega)only[qa0,hlen,rs];rw[aj];rfl
   ·simp(disch:=omega)only[qa0,rs]
  have h1:qq1 (t:Int) n.1 n.2.1 n.2.2.1 n.2.2.2.1 (0,ii (-1) (n.2.1.getD t af.z).2.1 m)=some (.inl (uc (n.2.1.getD t af.z) m)):=by
   have e:uc (n.2.1.getD t af.z) m=ii 1 ((n.2.1.getD t af.z).2.2.1.take (n.2.1.getD t af.z).2.2.1.length) (ii (-1) (n.2.1.getD t af.z).2.1 m):=by rw[List.take_length];rfl
   have hl0:=F.len1;rw[e];refine nt (fun i:Nat=>((i:Int),ii 1 ((n.2.1.getD t af.z).2.2.1.take i) (ii (-1) (n.2.1.getD t af.z).2.1 m))) (n.2.1.getD t af.z).2.2.1.length (dl (by omega)) _ (fun i hi=> ?_) ?_ _ rfl
   ·have hb:=F.i2 _ (aw 0 hi);have hq:=F.mb ((n.2.1.getD t af.z).2.2.1.getD i 0).toNat (by omega);have hlen:(ii 1 ((n.2.1.getD t af.z).2.2.1.take i) (ii (-1) (n.2.1.getD t af.z).2.1 m)).length=m.length:=(qbb _ _ _).trans hl0;have hat:=qg6 1 ((n.2.1.getD t af.z).2.2.1.take i) (ii (-1) (n.2.1.getD t af.z).2.1 m) (jag F.s2 i) (fun p hp=>F.i2' p (List.mem_of_mem_take hp)) ((n.2.1.getD t af.z).2.2.1.getD i 0).toNat;have hat1:=F.at1 ((n.2.1.getD t af.z).2.2.1.getD i 0).toNat;have hbd: -1≤(ii 1 ((n.2.1.getD t af.z).2.2.1.take i) (ii (-1) (n.2.1.getD t af.z).2.1 m)).getD ((n.2.1.getD t af.z).2.2.1.getD i 0).toNat 0∧(ii 1 ((n.2.1.getD t af.z).2.2.1.take i) (ii (-1) (n.2.1.getD t af.z).2.1 m)).getD ((n.2.1.getD t af.z).2.2.1.getD i 0).toNat 0≤101:=by
     rw[hat,hat1];split<;>split<;>omega
    rw[q1l 1 _ i hi];simp(disch:=omega)only[qa1,hlen,rs];rw[aj]
   ·simp(disch:=omega)only[qa1,rs]
  have hlen:=F.len;have h2:=qa6 n (uc (n.2.1.getD t af.z) m) (by omega);have ha:bu n.1 (uc (n.2.1.getD t af.z) m)= !(uc (n.2.1.getD t af.z) m).any (fun k=>decide (100<k)):=by
   unfold bu;rw[decide_eq_true (by omega),Bool.true_and];refine congrArg (!·) ?_;rw[Bool.eq_iff_iff,List.any_eq_true,List.any_eq_true];constructor
   ·rintro⟨k,hk,hb⟩;refine⟨k,hk,?_⟩;obtain⟨j,hj,rfl⟩:=je 0 hk;have:=F.nn hc j (by omega);unfold qrn at hb;simp only[Bool.or_eq_true,decide_eq_true_eq]at hb;exact decide_eq_true (by omega)
   ·rintro⟨k,hk,hb⟩;exact⟨k,hk,by unfold qrn;rw[hb,Bool.or_true]⟩
  rw[ha]at h2;have hap:([]:List Int)++m=m:=rfl;cases hd:(uc (n.2.1.getD t af.z) m).any (fun k=>decide (100<k))with
  |true=>
   rw[hd]at h2;simp(disch:=omega)only[hvv,hmm,ec,h0,h1,h2,hap,Bool.not_true,Bool.not_false,rs]
  |false=>
   rw[hd]at h2;simp(disch:=omega)only[hvv,hmm,ec,h0,h1,h2,hap,Bool.not_true,Bool.not_false,rs]
theorem je5{a b:ByteArray}(h:gp a b=true):a=b:=by
 have h1:(a.data==b.data)=true:=h;have h2:a.data=b.data:=beq_iff_eq.1 h1;cases a;cases b;congr
theorem qao(a:ByteArray):gp a a=true:=by
 show(a.data==a.data)=true;exact beq_self_eq_true _
theorem mr{a b:ByteArray}:gp a b=true↔a=b:=⟨je5,fun h=>by rw[h];exact qao b⟩
theorem ql0{β:Type}(k k' :ByteArray)(x:β):∀(l:List (ByteArray×β)),l8 .str k (tj .str k' x l)=bif gp k k' then some x else l8 .str k l
 |[]=>rfl
 |e::l=>by
  show l8 .str k (bif gp k' e.1 then(k',x)::l else e::tj .str k' x l)=bif gp k k' then some x else bif gp k e.1 then some e.2 else l8 .str k l;cases h:gp k' e.1 with
  |true=>
   have he:k' =e.1:=mr.1 h;show(bif gp k k' then some x else l8 .str k l)=_;rw[←he];cases gp k k' <;>rfl
  |false=>
   show(bif gp k e.1 then some e.2 else l8 .str k (tj .str k' x l))=_;rw[ql0 k k' x l];cases h1:gp k e.1 with
   |false=>rfl
   |true=>
    cases h2:gp k k' with
    |false=>rfl
    |true=>
     have:gp k' e.1=true:=mr.2 ((mr.1 h2).symm.trans (mr.1 h1));rw[this]at h;cases h
end Go.Proofs.Ytdhfhpdadbopkaa
