/-
  Siphon: firing in full, keys of markings, markings that were met.
-/
import Derived.Test.YtdhfhpdadbopkaaZ3W5
set_option linter.all false
namespace Go.Proofs.Ytdhfhpdadbopkaa
open Go.K Go.M
def qcd(T:ae)(m:List Int):List Int:=pw 1 T.2.2.1 (pw (-1) T.2.1 m)
def cp(n:a8)(m:List Int)(t:Nat):Int×List Int:=
 bif qbu (n.2.1.getD t ae.z) m then(bif (qcd (n.2.1.getD t ae.z) m).any (fun k=>decide (100<k))then(5,[])else(0,qcd (n.2.1.getD t ae.z) m))else(12,[])
structure FireF (n : a8) (m : List Int) (T : ae) : Prop where
 i1 : ∀ p ∈ T.2.1, 0 ≤ p ∧ p < m.length
 s1 : T.2.1.Pairwise (· < ·)
 i2 : ∀ p ∈ T.2.2.1, 0 ≤ p ∧ p < m.length
 s2 : T.2.2.1.Pairwise (· < ·)
 l1 : T.2.1.length ≤ 60
 l2 : T.2.2.1.length ≤ 60
 mb : ∀ i, i < m.length → 0 ≤ m.getD i 0 ∧ m.getD i 0 ≤ 100
 ml : (m.length : Int) = n.1
 N : 1 ≤ n.1 ∧ n.1 ≤ 40
theorem jed{n:a8}(h:Small n)(hv:bv n=true){m:List Int}(hm:c7 n.1 m=true){t:Nat}(ht:t<n.2.1.length):FireF n m (n.2.1.getD t ae.z):=by
 obtain⟨hml,hmb⟩:=qb6.1 hm;have hN:1≤n.1∧n.1≤40:=by
  unfold bv at hv;simp only[Bool.and_eq_true,decide_eq_true_eq]at hv;exact hv.1.1.1.1
 have hmem:n.2.1.getD t ae.z∈n.2.1:=ba ae.z ht;obtain⟨hs1,hs2⟩:=qxz hv hmem;have hi:=h.ins _ hmem;have ho:=h.outs _ hmem;obtain⟨hb1,hp1⟩:=qkc.1 hs1;obtain⟨hb2,hp2⟩:=qkc.1 hs2;exact⟨fun p hp=>by have:=hb1 p hp;omega,hp1,fun p hp=>by have:=hb2 p hp;omega,hp2,hi,ho,hmb,hml,hN⟩
section
variable {n : a8} {m : List Int} {T : ae} (F : FireF n m T)
include F
theorem FireF.len1:(pw (-1) T.2.1 m).length=m.length:=qeu _ _ _
theorem FireF.len:(qcd T m).length=m.length:=(qeu _ _ _).trans (qeu _ _ _)
theorem FireF.at1(q:Nat):(pw (-1) T.2.1 m).getD q 0=m.getD q 0+(if(q:Int)∈T.2.1 then-1 else 0):=qnv (-1) T.2.1 m F.s1 F.i1 q
theorem FireF.i2' :∀p∈T.2.2.1,0≤p∧p<(pw (-1) T.2.1 m).length:=fun p hp=>by have:=F.i2 p hp;have:=F.len1;omega
theorem FireF.at_(q:Nat):(qcd T m).getD q 0=m.getD q 0+(if(q:Int)∈T.2.1 then-1 else 0)+(if(q:Int)∈T.2.2.1 then 1 else 0):=by
 have:=qnv 1 T.2.2.1 (pw (-1) T.2.1 m) F.s2 F.i2' q;unfold qcd;rw[this,F.at1]
theorem FireF.can(hc:qbu T m=true):∀p∈T.2.1,1≤m.getD p.toNat 0:=fun p hp=>by
 unfold qbu at hc;rw[Bool.not_eq_true',List.any_eq_false]at hc;have hpb:=F.i1 p hp;have:=F.mb p.toNat (by omega);have:¬m.getD p.toNat 0=0:=by simpa using hc p hp
 omega
theorem FireF.nn(hc:qbu T m=true)(i:Nat)(hi:i<m.length):0≤(qcd T m).getD i 0∧(qcd T m).getD i 0≤101:=by
 rw[F.at_];have h5:=F.mb i hi;by_cases hin:(i:Int)∈T.2.1
 ·have:=F.can hc _ hin;rw[Int.toNat_natCast]at this;rw[if_pos hin];split<;>omega
 ·rw[if_neg hin];split<;>omega
end
theorem qvg{n:a8}(h:Small n)(hv:bv n=true){m:List Int}(hm:c7 n.1 m=true){t:Nat}(ht:t<n.2.1.length)(h0:(cp n m t).1=0):c7 n.1 (cp n m t).2=true:=by
 have F:=jed h hv hm ht;unfold cp at h0⊢;cases hc:qbu (n.2.1.getD t ae.z) m with
 |false=>rw[hc]at h0;exact absurd (show(12:Int)=0 from h0) (by decide)
 |true=>
  rw[hc]at h0;cases ha:(qcd (n.2.1.getD t ae.z) m).any (fun k=>decide (100<k))with
  |true=>rw[ha]at h0;exact absurd (show(5:Int)=0 from h0) (by decide)
  |false=>
   show c7 n.1 (qcd (n.2.1.getD t ae.z) m)=true;refine qb6.2 ⟨by rw[F.len];exact F.ml,fun i hi=> ?_⟩;rw[F.len]at hi;have h1:=F.nn hc i hi;rw[List.any_eq_false]at ha;have h2:=ha _ (ba 0 (show i<(qcd (n.2.1.getD t ae.z) m).length by rw[F.len];exact hi));have h2:¬(100:Int)<(qcd (n.2.1.getD t ae.z) m).getD i 0:=by simpa using h2
   omega
theorem q0m{n:a8}(h:Small n)(hv:bv n=true){m:List Int}(hm:c7 n.1 m=true){t:Nat}(ht:t<n.2.1.length):jd n m (t:Int)=some (cp n m t):=by
 have F:=jed h hv hm ht;have hN:=F.N;have hml:=F.ml;have hp:kg n m=some true:=by rw[o7 h m (by omega),hv,hm];rfl
 unfold jd m3 cp;rw[hp,Int.toNat_natCast];generalize n.2.1.getD t ae.z=T at F;have e1:=qvd T m (by have:=F.l1;omega) F.i1;cases hc:qbu T m with
 |false=>
  rw[hc]at e1;simp(disch:=omega)only[e1,Bool.not_true,Bool.not_false,rs]
 |true=>
  rw[hc]at e1;have e2:=q8o T.1 T.2.1 T.2.2.1 m (by have:=F.l1;omega) F.s1 F.i1 (fun i hi=>by have:=F.mb i hi;omega);have hlen1:=F.len1;have e3:=q8p T.2.2.1 (pw (-1) T.2.1 m) (by have:=F.l2;omega) F.s2 F.i2' (fun i hi=>by
   have:=F.mb i (by omega);rw[F.at1 i];split<;>omega)
  have hlen:=F.len;have hlen' :(pw 1 T.2.2.1 (pw (-1) T.2.1 m)).length=m.length:=F.len;obtain⟨M,e4,hM1,i,hM2,hM3⟩:=jgl (pw 1 T.2.2.1 (pw (-1) T.2.1 m)) (by omega) (by omega);have e5:=q2s m (by omega);by_cases hM:(100:Int)<M
  ·have ha:(qcd T m).any (fun k=>decide (100<k))=true:=List.any_eq_true.2 ⟨_,ba 0 hM2,by have e:(qcd T m).getD i 0=M:=hM3;rw[e];exact decide_eq_true hM⟩;rw[ha];simp(disch:=omega)only[e1,e5,e2,e3,e4,Bool.not_true,rs]
  ·have ha:(qcd T m).any (fun k=>decide (100<k))=false:=List.any_eq_false.2 fun k hk=>by
    obtain⟨j,hj,rfl⟩:=qi 0 hk;have:=hM1 j hj;have hh:¬(100:Int)<(qcd T m).getD j 0:=by show¬(100:Int)<(pw 1 T.2.2.1 (pw (-1) T.2.1 m)).getD j 0;omega
    simpa using hh
   rw[ha];simp(disch:=omega)only[e1,e5,e2,e3,e4,Bool.not_true,rs];rfl
theorem jb2{a b:ByteArray}(h:qas a b=true):a=b:=by
 have h1:(a.data==b.data)=true:=h;have h2:a.data=b.data:=beq_iff_eq.1 h1;cases a;cases b;congr
theorem qxw(a:ByteArray):qas a a=true:=by
 show(a.data==a.data)=true;exact beq_self_eq_true _
theorem qga{a b:ByteArray}:qas a b=true↔a=b:=⟨jb2,fun h=>by rw[h];exact qxw b⟩
theorem qzz{β:Type}(k k' :ByteArray)(x:β):∀(l:List (ByteArray×β)),s8 .str k (qef .str k' x l)=bif qas k k' then some x else s8 .str k l
 |[]=>rfl
 |e::l=>by
  show s8 .str k (bif qas k' e.1 then(k',x)::l else e::qef .str k' x l)=bif qas k k' then some x else bif qas k e.1 then some e.2 else s8 .str k l;cases h:qas k' e.1 with
  |true=>
   have he:k' =e.1:=qga.1 h;show(bif qas k k' then some x else s8 .str k l)=_;rw[←he];cases qas k k' <;>rfl
  |false=>
   show(bif qas k e.1 then some e.2 else s8 .str k (qef .str k' x l))=_;rw[qzz k k' x l];cases h1:qas k e.1 with
   |false=>rfl
   |true=>
    cases h2:qas k k' with
    |false=>rfl
    |true=>
     have:qas k' e.1=true:=qga.2 ((qga.1 h2).symm.trans (qga.1 h1));rw[this]at h;cases h
end Go.Proofs.Ytdhfhpdadbopkaa
