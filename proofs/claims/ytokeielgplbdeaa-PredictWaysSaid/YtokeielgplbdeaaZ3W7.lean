/-
  Siphon: firing in full, keys of markings, markings that were met.
-/
import Derived.Test.YtokeielgplbdeaaZ3W5
set_option linter.all false
namespace Go.Proofs.Ytokeielgplbdeaa
open Go.K Go.M
def c6(T:ag)(m:List Int):List Int:=gc 1 T.2.2.1 (gc (-1) T.2.1 m)
def q7a(n:cx)(m:List Int)(t:Nat):Int×List Int:=
 bif k6 (n.2.1.getD t ag.z) m then(bif (c6 (n.2.1.getD t ag.z) m).any (fun k=>decide (100<k))then(5,[])else(0,c6 (n.2.1.getD t ag.z) m))else(12,[])
structure FireF (n : cx) (m : List Int) (T : ag) : Prop where
 i1 : ∀ p ∈ T.2.1, 0 ≤ p ∧ p < m.length
 s1 : T.2.1.Pairwise (· < ·)
 i2 : ∀ p ∈ T.2.2.1, 0 ≤ p ∧ p < m.length
 s2 : T.2.2.1.Pairwise (· < ·)
 l1 : T.2.1.length ≤ 60
 l2 : T.2.2.1.length ≤ 60
 mb : ∀ i, i < m.length → 0 ≤ m.getD i 0 ∧ m.getD i 0 ≤ 100
 ml : (m.length : Int) = n.1
 N : 1 ≤ n.1 ∧ n.1 ≤ 40
theorem jbg{n:cx}(h:Small n)(hv:ey n=true){m:List Int}(hm:di n.1 m=true){t:Nat}(ht:t<n.2.1.length):FireF n m (n.2.1.getD t ag.z):=by
 obtain⟨hml,hmb⟩:=rb.1 hm;have hN:1≤n.1∧n.1≤40:=by
  unfold ey at hv;simp only[Bool.and_eq_true,decide_eq_true_eq]at hv;exact hv.1.1.1.1
 have hmem:n.2.1.getD t ag.z∈n.2.1:=ba ag.z ht;obtain⟨hs1,hs2⟩:=qwb hv hmem;have hi:=h.ins _ hmem;have ho:=h.outs _ hmem;obtain⟨hb1,hp1⟩:=qvw.1 hs1;obtain⟨hb2,hp2⟩:=qvw.1 hs2;exact⟨fun p hp=>by have:=hb1 p hp;omega,hp1,fun p hp=>by have:=hb2 p hp;omega,hp2,hi,ho,hmb,hml,hN⟩
section
variable {n : cx} {m : List Int} {T : ag} (F : FireF n m T)
include F
theorem FireF.len1:(gc (-1) T.2.1 m).length=m.length:=wc _ _ _
theorem FireF.len:(c6 T m).length=m.length:=(wc _ _ _).trans (wc _ _ _)
theorem FireF.at1(q:Nat):(gc (-1) T.2.1 m).getD q 0=m.getD q 0+(if(q:Int)∈T.2.1 then-1 else 0):=qd5 (-1) T.2.1 m F.s1 F.i1 q
theorem FireF.i2' :∀p∈T.2.2.1,0≤p∧p<(gc (-1) T.2.1 m).length:=fun p hp=>by have:=F.i2 p hp;have:=F.len1;omega
theorem FireF.at_(q:Nat):(c6 T m).getD q 0=m.getD q 0+(if(q:Int)∈T.2.1 then-1 else 0)+(if(q:Int)∈T.2.2.1 then 1 else 0):=by
 have:=qd5 1 T.2.2.1 (gc (-1) T.2.1 m) F.s2 F.i2' q;unfold c6;rw[this,F.at1]
theorem FireF.can(hc:k6 T m=true):∀p∈T.2.1,1≤m.getD p.toNat 0:=fun p hp=>by
 unfold k6 at hc;rw[Bool.not_eq_true',List.any_eq_false]at hc;have hpb:=F.i1 p hp;have:=F.mb p.toNat (by omega);have:¬m.getD p.toNat 0=0:=by simpa using hc p hp
 omega
theorem FireF.nn(hc:k6 T m=true)(i:Nat)(hi:i<m.length):0≤(c6 T m).getD i 0∧(c6 T m).getD i 0≤101:=by
 rw[F.at_];have h5:=F.mb i hi;by_cases hin:(i:Int)∈T.2.1
 ·have:=F.can hc _ hin;rw[Int.toNat_natCast]at this;rw[if_pos hin];split<;>omega
 ·rw[if_neg hin];split<;>omega
end
theorem jdv{n:cx}(h:Small n)(hv:ey n=true){m:List Int}(hm:di n.1 m=true){t:Nat}(ht:t<n.2.1.length):qel n m (t:Int)=some (q7a n m t):=by
 have F:=jbg h hv hm ht;have hN:=F.N;have hml:=F.ml;have hp:n9 n m=some true:=by rw[qfn h m (by omega),hv,hm];rfl
 unfold qel qky q7a;rw[hp,Int.toNat_natCast];generalize n.2.1.getD t ag.z=T at F;have e1:=qth T m (by have:=F.l1;omega) F.i1;cases hc:k6 T m with
 |false=>
  rw[hc]at e1;simp(disch:=omega)only[e1,Bool.not_true,Bool.not_false,rs]
 |true=>
  rw[hc]at e1;have e2:=q89 T.1 T.2.1 T.2.2.1 m (by have:=F.l1;omega) F.s1 F.i1 (fun i hi=>by have:=F.mb i hi;omega);have hlen1:=F.len1;have e3:=q9a T.2.2.1 (gc (-1) T.2.1 m) (by have:=F.l2;omega) F.s2 F.i2' (fun i hi=>by
   have:=F.mb i (by omega);rw[F.at1 i];split<;>omega)
  have hlen:=F.len;have hlen' :(gc 1 T.2.2.1 (gc (-1) T.2.1 m)).length=m.length:=F.len;obtain⟨M,e4,hM1,i,hM2,hM3⟩:=jir (gc 1 T.2.2.1 (gc (-1) T.2.1 m)) (by omega) (by omega);have e5:=q1t m (by omega);by_cases hM:(100:Int)<M
  ·have ha:(c6 T m).any (fun k=>decide (100<k))=true:=List.any_eq_true.2 ⟨_,ba 0 hM2,by have e:(c6 T m).getD i 0=M:=hM3;rw[e];exact decide_eq_true hM⟩;rw[ha];simp(disch:=omega)only[e1,e5,e2,e3,e4,Bool.not_true,rs]
  ·have ha:(c6 T m).any (fun k=>decide (100<k))=false:=List.any_eq_false.2 fun k hk=>by
    obtain⟨j,hj,rfl⟩:=j3 0 hk;have:=hM1 j hj;have hh:¬(100:Int)<(c6 T m).getD j 0:=by show¬(100:Int)<(gc 1 T.2.2.1 (gc (-1) T.2.1 m)).getD j 0;omega
    simpa using hh
   rw[ha];simp(disch:=omega)only[e1,e5,e2,e3,e4,Bool.not_true,rs];rfl
theorem q9x{n:cx}{m:List Int}{t:Nat}(ht:t<n.2.1.length)(F:FireF n m (n.2.1.getD t ag.z)):qiq n m (t:Int)=some (k6 (n.2.1.getD t ag.z) m):=by
 have hl:=F.l1;have hL:qqx m (t:Int) n.1 n.2.1 n.2.2.1 n.2.2.2.1 0=some (bif (n.2.1.getD t ag.z).2.1.any (fun p=>decide (m.getD p.toNat 0=0))then .inr false else .inl ()):=by
  refine yz (n.2.1.getD t ag.z).2.1 0 (fun p=>decide (m.getD p.toNat 0=0)) false (by omega) (fun i hi=> ?_) ?_
  ·have hb:=F.i1 _ (ba 0 hi);have hq:=F.mb ((n.2.1.getD t ag.z).2.1.getD i 0).toNat (by omega);by_cases h0:m.getD ((n.2.1.getD t ag.z).2.1.getD i 0).toNat 0=0
   ·rw[decide_eq_true h0];simp(disch:=omega)only[te,rs]
   ·rw[decide_eq_false h0];simp(disch:=omega)only[te,rs];rw[al]
  ·simp(disch:=omega)only[te,rs]
 unfold qiq k6;rw[hL,jf];cases(n.2.1.getD t ag.z).2.1.any (fun p=>decide (m.getD p.toNat 0=0))<;>rfl
theorem qxl(c:Int)(l:List Int)(i:Nat)(hi:i<l.length)(m:List Int):gc c (l.take (i+1)) m=(gc c (l.take i) m).set (l.getD i 0).toNat ((gc c (l.take i) m).getD (l.getD i 0).toNat 0+c):=by
 unfold gc;rw[cq l i 0 hi,List.foldl_append];rfl
theorem q7y{l:List Int}(h:l.Pairwise (·<·))(i:Nat):(l.take i).Pairwise (·<·):=h.sublist (List.take_sublist i l)
theorem q3x{a b:ByteArray}(h:xh a b=true):a=b:=by
 have h1:(a.data==b.data)=true:=h;have h2:a.data=b.data:=beq_iff_eq.1 h1;cases a;cases b;congr
theorem qv7(a:ByteArray):xh a a=true:=by
 show(a.data==a.data)=true;exact beq_self_eq_true _
theorem qit{a b:ByteArray}:xh a b=true↔a=b:=⟨q3x,fun h=>by rw[h];exact qv7 b⟩
theorem qyc{β:Type}(k k' :ByteArray)(x:β):∀(l:List (ByteArray×β)),ca .str k (t4 .str k' x l)=bif xh k k' then some x else ca .str k l
 |[]=>rfl
 |e::l=>by
  show ca .str k (bif xh k' e.1 then(k',x)::l else e::t4 .str k' x l)=bif xh k k' then some x else bif xh k e.1 then some e.2 else ca .str k l;cases h:xh k' e.1 with
  |true=>
   have he:k' =e.1:=qit.1 h;show(bif xh k k' then some x else ca .str k l)=_;rw[←he];cases xh k k' <;>rfl
  |false=>
   show(bif xh k e.1 then some e.2 else ca .str k (t4 .str k' x l))=_;rw[qyc k k' x l];cases h1:xh k e.1 with
   |false=>rfl
   |true=>
    cases h2:xh k k' with
    |false=>rfl
    |true=>
     have:xh k' e.1=true:=qit.2 ((qit.1 h2).symm.trans (qit.1 h1));rw[this]at h;cases h
end Go.Proofs.Ytokeielgplbdeaa
