/-
  Siphon: firing in full, keys of markings, markings that were met.
-/
import Derived.Test.YtdhfhpdadbopkaaZ5W5
set_option linter.all false
namespace Go.Proofs.Ytdhfhpdadbopkaa
open Go.K Go.M
def qv(T:ae)(m:List Int):List Int:=fe 1 T.2.2.1 (fe (-1) T.2.1 m)
def jq(n:a8)(m:List Int)(t:Nat):Int×List Int:=
 bif vi (n.2.1.getD t ae.z) m then(bif (qv (n.2.1.getD t ae.z) m).any (fun k=>decide (100<k))then(5,[])else(0,qv (n.2.1.getD t ae.z) m))else(12,[])
structure FireF (n : a8) (m : List Int) (T : ae) : Prop where
 i1 : ∀ p ∈ T.2.1, 0 ≤ p ∧ p < m.length
 s1 : T.2.1.Pairwise (· < ·)
 i2 : ∀ p ∈ T.2.2.1, 0 ≤ p ∧ p < m.length
 s2 : T.2.2.1.Pairwise (· < ·)
 l1 : T.2.1.length ≤ 60
 l2 : T.2.2.1.length ≤ 60
 mb : ∀ i, i < m.length → 0 ≤ m.getD i 0 ∧ m.getD i 0 ≤ 100
 ml : (m.length : Int) = n.1
 N : 1 ≤ n.1 ∧ n.1 ≤ 40
theorem q57{n:a8}(h:Small n)(hv:dv n=true){m:List Int}(hm:da n.1 m=true){t:Nat}(ht:t<n.2.1.length):FireF n m (n.2.1.getD t ae.z):=by
 obtain⟨hml,hmb⟩:=qc5.1 hm;have hN:1≤n.1∧n.1≤40:=by
  unfold dv at hv;simp only[Bool.and_eq_true,decide_eq_true_eq]at hv;exact hv.1.1.1.1
 have hmem:n.2.1.getD t ae.z∈n.2.1:=az ae.z ht;obtain⟨hs1,hs2⟩:=qwz hv hmem;have hi:=h.ins _ hmem;have ho:=h.outs _ hmem;obtain⟨hb1,hp1⟩:=qio.1 hs1;obtain⟨hb2,hp2⟩:=qio.1 hs2;exact⟨fun p hp=>by have:=hb1 p hp;omega,hp1,fun p hp=>by have:=hb2 p hp;omega,hp2,hi,ho,hmb,hml,hN⟩
section
variable {n : a8} {m : List Int} {T : ae} (F : FireF n m T)
include F
theorem FireF.len1:(fe (-1) T.2.1 m).length=m.length:=xu _ _ _
theorem FireF.len:(qv T m).length=m.length:=(xu _ _ _).trans (xu _ _ _)
theorem FireF.at1(q:Nat):(fe (-1) T.2.1 m).getD q 0=m.getD q 0+(if(q:Int)∈T.2.1 then-1 else 0):=qej (-1) T.2.1 m F.s1 F.i1 q
theorem FireF.i2' :∀p∈T.2.2.1,0≤p∧p<(fe (-1) T.2.1 m).length:=fun p hp=>by have:=F.i2 p hp;have:=F.len1;omega
theorem FireF.at_(q:Nat):(qv T m).getD q 0=m.getD q 0+(if(q:Int)∈T.2.1 then-1 else 0)+(if(q:Int)∈T.2.2.1 then 1 else 0):=by
 have:=qej 1 T.2.2.1 (fe (-1) T.2.1 m) F.s2 F.i2' q;unfold qv;rw[this,F.at1]
theorem FireF.can(hc:vi T m=true):∀p∈T.2.1,1≤m.getD p.toNat 0:=fun p hp=>by
 unfold vi at hc;rw[Bool.not_eq_true',List.any_eq_false]at hc;have hpb:=F.i1 p hp;have:=F.mb p.toNat (by omega);have:¬m.getD p.toNat 0=0:=by simpa using hc p hp
 omega
theorem FireF.nn(hc:vi T m=true)(i:Nat)(hi:i<m.length):0≤(qv T m).getD i 0∧(qv T m).getD i 0≤101:=by
 rw[F.at_];have h5:=F.mb i hi;by_cases hin:(i:Int)∈T.2.1
 ·have:=F.can hc _ hin;rw[Int.toNat_natCast]at this;rw[if_pos hin];split<;>omega
 ·rw[if_neg hin];split<;>omega
end
theorem q4k{n:a8}(h:Small n)(hv:dv n=true){m:List Int}(hm:da n.1 m=true){t:Nat}(ht:t<n.2.1.length)(h0:(jq n m t).1=0):da n.1 (jq n m t).2=true:=by
 have F:=q57 h hv hm ht;unfold jq at h0⊢;cases hc:vi (n.2.1.getD t ae.z) m with
 |false=>rw[hc]at h0;exact absurd (show(12:Int)=0 from h0) (by decide)
 |true=>
  rw[hc]at h0;cases ha:(qv (n.2.1.getD t ae.z) m).any (fun k=>decide (100<k))with
  |true=>rw[ha]at h0;exact absurd (show(5:Int)=0 from h0) (by decide)
  |false=>
   show da n.1 (qv (n.2.1.getD t ae.z) m)=true;refine qc5.2 ⟨by rw[F.len];exact F.ml,fun i hi=> ?_⟩;rw[F.len]at hi;have h1:=F.nn hc i hi;rw[List.any_eq_false]at ha;have h2:=ha _ (az 0 (show i<(qv (n.2.1.getD t ae.z) m).length by rw[F.len];exact hi));have h2:¬(100:Int)<(qv (n.2.1.getD t ae.z) m).getD i 0:=by simpa using h2
   omega
theorem ja2{n:a8}(h:Small n)(hv:dv n=true){m:List Int}(hm:da n.1 m=true){t:Nat}(ht:t<n.2.1.length):qa7 n m (t:Int)=some (jq n m t):=by
 have F:=q57 h hv hm ht;have hN:=F.N;have hml:=F.ml;have hp:l5 n m=some true:=by rw[qf0 h m (by omega),hv,hm];rfl
 unfold qa7 qe3 jq;rw[hp,Int.toNat_natCast];generalize n.2.1.getD t ae.z=T at F;have e1:=qtz T m (by have:=F.l1;omega) F.i1;cases hc:vi T m with
 |false=>
  rw[hc]at e1;simp(disch:=omega)only[e1,Bool.not_true,Bool.not_false,rs]
 |true=>
  rw[hc]at e1;have e2:=q7m T.1 T.2.1 T.2.2.1 m (by have:=F.l1;omega) F.s1 F.i1 (fun i hi=>by have:=F.mb i hi;omega);have hlen1:=F.len1;have e3:=q7n T.2.2.1 (fe (-1) T.2.1 m) (by have:=F.l2;omega) F.s2 F.i2' (fun i hi=>by
   have:=F.mb i (by omega);rw[F.at1 i];split<;>omega)
  have hlen:=F.len;have hlen' :(fe 1 T.2.2.1 (fe (-1) T.2.1 m)).length=m.length:=F.len;obtain⟨M,e4,hM1,i,hM2,hM3⟩:=je7 (fe 1 T.2.2.1 (fe (-1) T.2.1 m)) (by omega) (by omega);have e5:=q8k m (by omega);by_cases hM:(100:Int)<M
  ·have ha:(qv T m).any (fun k=>decide (100<k))=true:=List.any_eq_true.2 ⟨_,az 0 hM2,by have e:(qv T m).getD i 0=M:=hM3;rw[e];exact decide_eq_true hM⟩;rw[ha];simp(disch:=omega)only[e1,e5,e2,e3,e4,Bool.not_true,rs]
  ·have ha:(qv T m).any (fun k=>decide (100<k))=false:=List.any_eq_false.2 fun k hk=>by
    obtain⟨j,hj,rfl⟩:=ow 0 hk;have:=hM1 j hj;have hh:¬(100:Int)<(qv T m).getD j 0:=by show¬(100:Int)<(fe 1 T.2.2.1 (fe (-1) T.2.1 m)).getD j 0;omega
    simpa using hh
   rw[ha];simp(disch:=omega)only[e1,e5,e2,e3,e4,Bool.not_true,rs];rfl
theorem qze{n:a8}{m:List Int}{t:Nat}(ht:t<n.2.1.length)(F:FireF n m (n.2.1.getD t ae.z)):qah n m (t:Int)=some (vi (n.2.1.getD t ae.z) m):=by
 have hl:=F.l1;have hL:qrk m (t:Int) n.1 n.2.1 n.2.2.1 n.2.2.2.1 0=some (bif (n.2.1.getD t ae.z).2.1.any (fun p=>decide (m.getD p.toNat 0=0))then .inr false else .inl ()):=by
  refine l3 (n.2.1.getD t ae.z).2.1 0 (fun p=>decide (m.getD p.toNat 0=0)) false (by omega) (fun i hi=> ?_) ?_
  ·have hb:=F.i1 _ (az 0 hi);have hq:=F.mb ((n.2.1.getD t ae.z).2.1.getD i 0).toNat (by omega);by_cases h0:m.getD ((n.2.1.getD t ae.z).2.1.getD i 0).toNat 0=0
   ·rw[decide_eq_true h0];simp(disch:=omega)only[uv,rs]
   ·rw[decide_eq_false h0];simp(disch:=omega)only[uv,rs];rw[ao]
  ·simp(disch:=omega)only[uv,rs]
 unfold qah vi;rw[hL,ba];cases(n.2.1.getD t ae.z).2.1.any (fun p=>decide (m.getD p.toNat 0=0))<;>rfl
theorem qyk(c:Int)(l:List Int)(i:Nat)(hi:i<l.length)(m:List Int):fe c (l.take (i+1)) m=(fe c (l.take i) m).set (l.getD i 0).toNat ((fe c (l.take i) m).getD (l.getD i 0).toNat 0+c):=by
 unfold fe;rw[kd l i 0 hi,List.foldl_append];rfl
theorem q6n{l:List Int}(h:l.Pairwise (·<·))(i:Nat):(l.take i).Pairwise (·<·):=h.sublist (List.take_sublist i l)
theorem qwo{n:a8}(h:Small n)(hv:dv n=true){m:List Int}(hm:da n.1 m=true){t:Nat}(ht:t<n.2.1.length):sk n m (t:Int)=some (jq n m t):=by
 have F:=q57 h hv hm ht;have hN:=F.N;have hml:=F.ml;have hvv:=qrs h;have hmm:=xq n m (by omega);rw[hv]at hvv;rw[hm]at hmm;have ec:=qze ht F;unfold sk jq;cases hc:vi (n.2.1.getD t ae.z) m with
 |false=>
  rw[hc]at ec;simp(disch:=omega)only[hvv,hmm,ec,Bool.not_true,Bool.not_false,rs]
 |true=>
  rw[hc]at ec;have hl1:=F.l1;have hl2:=F.l2;have h0:qnm (t:Int) n.1 n.2.1 n.2.2.1 n.2.2.2.1 (0,m)=some (.inl (fe (-1) (n.2.1.getD t ae.z).2.1 m)):=by
   have e:fe (-1) (n.2.1.getD t ae.z).2.1 m=fe (-1) ((n.2.1.getD t ae.z).2.1.take (n.2.1.getD t ae.z).2.1.length) m:=by rw[List.take_length]
   rw[e];refine xe (fun i:Nat=>((i:Int),fe (-1) ((n.2.1.getD t ae.z).2.1.take i) m)) (n.2.1.getD t ae.z).2.1.length (ge (by omega)) _ (fun i hi=> ?_) ?_ _ rfl
   ·have hb:=F.i1 _ (az 0 hi);have hq:=F.mb ((n.2.1.getD t ae.z).2.1.getD i 0).toNat (by omega);have hlen:(fe (-1) ((n.2.1.getD t ae.z).2.1.take i) m).length=m.length:=xu _ _ _;have hat:=qej (-1) ((n.2.1.getD t ae.z).2.1.take i) m (q6n F.s1 i) (fun p hp=>F.i1 p (List.mem_of_mem_take hp)) ((n.2.1.getD t ae.z).2.1.getD i 0).toNat;have hbd: -1≤(fe (-1) ((n.2.1.getD t ae.z).2.1.take i) m).getD ((n.2.1.getD t ae.z).2.1.getD i 0).toNat 0∧(fe (-1) ((n.2.1.getD t ae.z).2.1.take i) m).getD ((n.2.1.getD t ae.z).2.1.getD i 0).toNat 0≤100:=by
     rw[hat];split<;>omega
    rw[qyk (-1) _ i hi];simp(disch:=omega)only[xl,hlen,rs];rw[ao];rfl
   ·simp(disch:=omega)only[xl,rs]
  have h1:qnn (t:Int) n.1 n.2.1 n.2.2.1 n.2.2.2.1 (0,fe (-1) (n.2.1.getD t ae.z).2.1 m)=some (.inl (qv (n.2.1.getD t ae.z) m)):=by
   have e:qv (n.2.1.getD t ae.z) m=fe 1 ((n.2.1.getD t ae.z).2.2.1.take (n.2.1.getD t ae.z).2.2.1.length) (fe (-1) (n.2.1.getD t ae.z).2.1 m):=by rw[List.take_length];rfl
   have hl0:=F.len1;rw[e];refine xe (fun i:Nat=>((i:Int),fe 1 ((n.2.1.getD t ae.z).2.2.1.take i) (fe (-1) (n.2.1.getD t ae.z).2.1 m))) (n.2.1.getD t ae.z).2.2.1.length (ge (by omega)) _ (fun i hi=> ?_) ?_ _ rfl
   ·have hb:=F.i2 _ (az 0 hi);have hq:=F.mb ((n.2.1.getD t ae.z).2.2.1.getD i 0).toNat (by omega);have hlen:(fe 1 ((n.2.1.getD t ae.z).2.2.1.take i) (fe (-1) (n.2.1.getD t ae.z).2.1 m)).length=m.length:=(xu _ _ _).trans hl0;have hat:=qej 1 ((n.2.1.getD t ae.z).2.2.1.take i) (fe (-1) (n.2.1.getD t ae.z).2.1 m) (q6n F.s2 i) (fun p hp=>F.i2' p (List.mem_of_mem_take hp)) ((n.2.1.getD t ae.z).2.2.1.getD i 0).toNat;have hat1:=F.at1 ((n.2.1.getD t ae.z).2.2.1.getD i 0).toNat;have hbd: -1≤(fe 1 ((n.2.1.getD t ae.z).2.2.1.take i) (fe (-1) (n.2.1.getD t ae.z).2.1 m)).getD ((n.2.1.getD t ae.z).2.2.1.getD i 0).toNat 0∧(fe 1 ((n.2.1.getD t ae.z).2.2.1.take i) (fe (-1) (n.2.1.getD t ae.z).2.1 m)).getD ((n.2.1.getD t ae.z).2.2.1.getD i 0).toNat 0≤101:=by
     rw[hat,hat1];split<;>split<;>omega
    rw[qyk 1 _ i hi];simp(disch:=omega)only[xm,hlen,rs];rw[ao]
   ·simp(disch:=omega)only[xm,rs]
  have hlen:=F.len;have h2:=xq n (qv (n.2.1.getD t ae.z) m) (by omega);have ha:da n.1 (qv (n.2.1.getD t ae.z) m)= !(qv (n.2.1.getD t ae.z) m).any (fun k=>decide (100<k)):=by
   unfold da;rw[decide_eq_true (by omega),Bool.true_and];refine congrArg (!·) ?_;rw[Bool.eq_iff_iff,List.any_eq_true,List.any_eq_true];constructor
   ·rintro⟨k,hk,hb⟩;refine⟨k,hk,?_⟩;obtain⟨j,hj,rfl⟩:=ow 0 hk;have:=F.nn hc j (by omega);unfold qok at hb;simp only[Bool.or_eq_true,decide_eq_true_eq]at hb;exact decide_eq_true (by omega)
   ·rintro⟨k,hk,hb⟩;exact⟨k,hk,by unfold qok;rw[hb,Bool.or_true]⟩
  rw[ha]at h2;have hap:([]:List Int)++m=m:=rfl;cases hd:(qv (n.2.1.getD t ae.z) m).any (fun k=>decide (100<k))with
  |true=>
   rw[hd]at h2;simp(disch:=omega)only[hvv,hmm,ec,h0,h1,h2,hap,Bool.not_true,Bool.not_false,rs]
  |false=>
   rw[hd]at h2;simp(disch:=omega)only[hvv,hmm,ec,h0,h1,h2,hap,Bool.not_true,Bool.not_false,rs]
theorem jas{a b:ByteArray}(h:yn a b=true):a=b:=by
 have h1:(a.data==b.data)=true:=h;have h2:a.data=b.data:=beq_iff_eq.1 h1;cases a;cases b;congr
theorem qww(a:ByteArray):yn a a=true:=by
 show(a.data==a.data)=true;exact beq_self_eq_true _
theorem qeh{a b:ByteArray}:yn a b=true↔a=b:=⟨jas,fun h=>by rw[h];exact qww b⟩
theorem qy2{β:Type}(k k' :ByteArray)(x:β):∀(l:List (ByteArray×β)),qz .str k (qcn .str k' x l)=bif yn k k' then some x else qz .str k l
 |[]=>rfl
 |e::l=>by
  show qz .str k (bif yn k' e.1 then(k',x)::l else e::qcn .str k' x l)=bif yn k k' then some x else bif yn k e.1 then some e.2 else qz .str k l;cases h:yn k' e.1 with
  |true=>
   have he:k' =e.1:=qeh.1 h;show(bif yn k k' then some x else qz .str k l)=_;rw[←he];cases yn k k' <;>rfl
  |false=>
   show(bif yn k e.1 then some e.2 else qz .str k (qcn .str k' x l))=_;rw[qy2 k k' x l];cases h1:yn k e.1 with
   |false=>rfl
   |true=>
    cases h2:yn k k' with
    |false=>rfl
    |true=>
     have:yn k' e.1=true:=qeh.2 ((qeh.1 h2).symm.trans (qeh.1 h1));rw[this]at h;cases h
end Go.Proofs.Ytdhfhpdadbopkaa
