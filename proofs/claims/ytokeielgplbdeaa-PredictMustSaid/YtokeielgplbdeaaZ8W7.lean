/-
  Siphon: firing in full, keys of markings, markings that were met.
-/
import Derived.Test.YtokeielgplbdeaaZ8W5
set_option linter.all false
namespace Go.Proofs.Ytokeielgplbdeaa
open Go.K Go.M
def ca(T:ag)(m:List Int):List Int:=fl 1 T.2.2.1 (fl (-1) T.2.1 m)
def q5b(n:cj)(m:List Int)(t:Nat):Int×List Int:=
 bif jm (n.2.1.getD t ag.z) m then(bif (ca (n.2.1.getD t ag.z) m).any (fun k=>decide (100<k))then(5,[])else(0,ca (n.2.1.getD t ag.z) m))else(12,[])
structure FireF (n : cj) (m : List Int) (T : ag) : Prop where
 i1 : ∀ p ∈ T.2.1, 0 ≤ p ∧ p < m.length
 s1 : T.2.1.Pairwise (· < ·)
 i2 : ∀ p ∈ T.2.2.1, 0 ≤ p ∧ p < m.length
 s2 : T.2.2.1.Pairwise (· < ·)
 l1 : T.2.1.length ≤ 60
 l2 : T.2.2.1.length ≤ 60
 mb : ∀ i, i < m.length → 0 ≤ m.getD i 0 ∧ m.getD i 0 ≤ 100
 ml : (m.length : Int) = n.1
 N : 1 ≤ n.1 ∧ n.1 ≤ 40
theorem q9v{n:cj}(h:Small n)(hv:b9 n=true){m:List Int}(hm:c8 n.1 m=true){t:Nat}(ht:t<n.2.1.length):FireF n m (n.2.1.getD t ag.z):=by
 obtain⟨hml,hmb⟩:=ja.1 hm;have hN:1≤n.1∧n.1≤40:=by
  unfold b9 at hv;simp only[Bool.and_eq_true,decide_eq_true_eq]at hv;exact hv.1.1.1.1
 have hmem:n.2.1.getD t ag.z∈n.2.1:=aw ag.z ht;obtain⟨hs1,hs2⟩:=qkv hv hmem;have hi:=h.ins _ hmem;have ho:=h.outs _ hmem;obtain⟨hb1,hp1⟩:=ue.1 hs1;obtain⟨hb2,hp2⟩:=ue.1 hs2;exact⟨fun p hp=>by have:=hb1 p hp;omega,hp1,fun p hp=>by have:=hb2 p hp;omega,hp2,hi,ho,hmb,hml,hN⟩
section
variable {n : cj} {m : List Int} {T : ag} (F : FireF n m T)
include F
theorem FireF.len1:(fl (-1) T.2.1 m).length=m.length:=pe _ _ _
theorem FireF.len:(ca T m).length=m.length:=(pe _ _ _).trans (pe _ _ _)
theorem FireF.at1(q:Nat):(fl (-1) T.2.1 m).getD q 0=m.getD q 0+(if(q:Int)∈T.2.1 then-1 else 0):=qd3 (-1) T.2.1 m F.s1 F.i1 q
theorem FireF.i2' :∀p∈T.2.2.1,0≤p∧p<(fl (-1) T.2.1 m).length:=fun p hp=>by have:=F.i2 p hp;have:=F.len1;omega
theorem FireF.at_(q:Nat):(ca T m).getD q 0=m.getD q 0+(if(q:Int)∈T.2.1 then-1 else 0)+(if(q:Int)∈T.2.2.1 then 1 else 0):=by
 have:=qd3 1 T.2.2.1 (fl (-1) T.2.1 m) F.s2 F.i2' q;unfold ca;rw[this,F.at1]
theorem FireF.can(hc:jm T m=true):∀p∈T.2.1,1≤m.getD p.toNat 0:=fun p hp=>by
 unfold jm at hc;rw[Bool.not_eq_true',List.any_eq_false]at hc;have hpb:=F.i1 p hp;have:=F.mb p.toNat (by omega);have:¬m.getD p.toNat 0=0:=by simpa using hc p hp
 omega
theorem FireF.nn(hc:jm T m=true)(i:Nat)(hi:i<m.length):0≤(ca T m).getD i 0∧(ca T m).getD i 0≤101:=by
 rw[F.at_];have h5:=F.mb i hi;by_cases hin:(i:Int)∈T.2.1
 ·have:=F.can hc _ hin;rw[Int.toNat_natCast]at this;rw[if_pos hin];split<;>omega
 ·rw[if_neg hin];split<;>omega
end
theorem jcd{n:cj}(h:Small n)(hv:b9 n=true){m:List Int}(hm:c8 n.1 m=true){t:Nat}(ht:t<n.2.1.length):qem n m (t:Int)=some (q5b n m t):=by
 have F:=q9v h hv hm ht;have hN:=F.N;have hml:=F.ml;have hp:oq n m=some true:=by rw[qfl h m (by omega),hv,hm];rfl
 unfold qem qkb q5b;rw[hp,Int.toNat_natCast];generalize n.2.1.getD t ag.z=T at F;have e1:=qrw T m (by have:=F.l1;omega) F.i1;cases hc:jm T m with
 |false=>
  rw[hc]at e1;simp(disch:=omega)only[e1,Bool.not_true,Bool.not_false,rs]
 |true=>
  rw[hc]at e1;have e2:=q7e T.1 T.2.1 T.2.2.1 m (by have:=F.l1;omega) F.s1 F.i1 (fun i hi=>by have:=F.mb i hi;omega);have hlen1:=F.len1;have e3:=q7f T.2.2.1 (fl (-1) T.2.1 m) (by have:=F.l2;omega) F.s2 F.i2' (fun i hi=>by
   have:=F.mb i (by omega);rw[F.at1 i];split<;>omega)
  have hlen:=F.len;have hlen' :(fl 1 T.2.2.1 (fl (-1) T.2.1 m)).length=m.length:=F.len;obtain⟨M,e4,hM1,i,hM2,hM3⟩:=jg6 (fl 1 T.2.2.1 (fl (-1) T.2.1 m)) (by omega) (by omega);have e5:=qkz m (by omega);by_cases hM:(100:Int)<M
  ·have ha:(ca T m).any (fun k=>decide (100<k))=true:=List.any_eq_true.2 ⟨_,aw 0 hM2,by have e:(ca T m).getD i 0=M:=hM3;rw[e];exact decide_eq_true hM⟩;rw[ha];simp(disch:=omega)only[e1,e5,e2,e3,e4,Bool.not_true,rs]
  ·have ha:(ca T m).any (fun k=>decide (100<k))=false:=List.any_eq_false.2 fun k hk=>by
    obtain⟨j,hj,rfl⟩:=ig 0 hk;have:=hM1 j hj;have hh:¬(100:Int)<(ca T m).getD j 0:=by show¬(100:Int)<(fl 1 T.2.2.1 (fl (-1) T.2.1 m)).getD j 0;omega
    simpa using hh
   rw[ha];simp(disch:=omega)only[e1,e5,e2,e3,e4,Bool.not_true,rs];rfl
theorem q74{n:cj}{m:List Int}{t:Nat}(ht:t<n.2.1.length)(F:FireF n m (n.2.1.getD t ag.z)):qom n m (t:Int)=some (jm (n.2.1.getD t ag.z) m):=by
 have hl:=F.l1;have hL:qpm m (t:Int) n.1 n.2.1 n.2.2.1 n.2.2.2.1 0=some (bif (n.2.1.getD t ag.z).2.1.any (fun p=>decide (m.getD p.toNat 0=0))then .inr false else .inl ()):=by
  refine zm (n.2.1.getD t ag.z).2.1 0 (fun p=>decide (m.getD p.toNat 0=0)) false (by omega) (fun i hi=> ?_) ?_
  ·have hb:=F.i1 _ (aw 0 hi);have hq:=F.mb ((n.2.1.getD t ag.z).2.1.getD i 0).toNat (by omega);by_cases h0:m.getD ((n.2.1.getD t ag.z).2.1.getD i 0).toNat 0=0
   ·rw[decide_eq_true h0];simp(disch:=omega)only[y9,rs]
   ·rw[decide_eq_false h0];simp(disch:=omega)only[y9,rs];rw[al]
  ·simp(disch:=omega)only[y9,rs]
 unfold qom jm;rw[hL,i5];cases(n.2.1.getD t ag.z).2.1.any (fun p=>decide (m.getD p.toNat 0=0))<;>rfl
theorem qvf(c:Int)(l:List Int)(i:Nat)(hi:i<l.length)(m:List Int):fl c (l.take (i+1)) m=(fl c (l.take i) m).set (l.getD i 0).toNat ((fl c (l.take i) m).getD (l.getD i 0).toNat 0+c):=by
 unfold fl;rw[cr l i 0 hi,List.foldl_append];rfl
theorem q50{l:List Int}(h:l.Pairwise (·<·))(i:Nat):(l.take i).Pairwise (·<·):=h.sublist (List.take_sublist i l)
theorem q1v{a b:ByteArray}(h:x4 a b=true):a=b:=by
 have h1:(a.data==b.data)=true:=h;have h2:a.data=b.data:=beq_iff_eq.1 h1;cases a;cases b;congr
theorem qt8(a:ByteArray):x4 a a=true:=by
 show(a.data==a.data)=true;exact beq_self_eq_true _
theorem qii{a b:ByteArray}:x4 a b=true↔a=b:=⟨q1v,fun h=>by rw[h];exact qt8 b⟩
theorem qv9{β:Type}(k k' :ByteArray)(x:β):∀(l:List (ByteArray×β)),cb .str k (ur .str k' x l)=bif x4 k k' then some x else cb .str k l
 |[]=>rfl
 |e::l=>by
  show cb .str k (bif x4 k' e.1 then(k',x)::l else e::ur .str k' x l)=bif x4 k k' then some x else bif x4 k e.1 then some e.2 else cb .str k l;cases h:x4 k' e.1 with
  |true=>
   have he:k' =e.1:=qii.1 h;show(bif x4 k k' then some x else cb .str k l)=_;rw[←he];cases x4 k k' <;>rfl
  |false=>
   show(bif x4 k e.1 then some e.2 else cb .str k (ur .str k' x l))=_;rw[qv9 k k' x l];cases h1:x4 k e.1 with
   |false=>rfl
   |true=>
    cases h2:x4 k k' with
    |false=>rfl
    |true=>
     have:x4 k' e.1=true:=qii.2 ((qii.1 h2).symm.trans (qii.1 h1));rw[this]at h;cases h
end Go.Proofs.Ytokeielgplbdeaa
