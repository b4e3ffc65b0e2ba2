/-
  Siphon: firing in full, keys of markings, markings that were met.
-/
import Derived.Test.YtokeielgplbdeaaZ6W5
set_option linter.all false
namespace Go.Proofs.Ytokeielgplbdeaa
open Go.K Go.M
def cw(T:ai)(m:List Int):List Int:=gc 1 T.2.2.1 (gc (-1) T.2.1 m)
def qyq(n:c9)(m:List Int)(t:Nat):Int×List Int:=
 bif kw (n.2.1.getD t ai.z) m then(bif (cw (n.2.1.getD t ai.z) m).any (fun k=>decide (100<k))then(5,[])else(0,cw (n.2.1.getD t ai.z) m))else(12,[])
structure FireF (n : c9) (m : List Int) (T : ai) : Prop where
 i1 : ∀ p ∈ T.2.1, 0 ≤ p ∧ p < m.length
 s1 : T.2.1.Pairwise (· < ·)
 i2 : ∀ p ∈ T.2.2.1, 0 ≤ p ∧ p < m.length
 s2 : T.2.2.1.Pairwise (· < ·)
 l1 : T.2.1.length ≤ 60
 l2 : T.2.2.1.length ≤ 60
 mb : ∀ i, i < m.length → 0 ≤ m.getD i 0 ∧ m.getD i 0 ≤ 100
 ml : (m.length : Int) = n.1
 N : 1 ≤ n.1 ∧ n.1 ≤ 40
theorem qyp{n:c9}(h:Small n)(hv:de n=true){m:List Int}(hm:df n.1 m=true){t:Nat}(ht:t<n.2.1.length):FireF n m (n.2.1.getD t ai.z):=by
 obtain⟨hml,hmb⟩:=ma.1 hm;have hN:1≤n.1∧n.1≤40:=by
  unfold de at hv;simp only[Bool.and_eq_true,decide_eq_true_eq]at hv;exact hv.1.1.1.1
 have hmem:n.2.1.getD t ai.z∈n.2.1:=az ai.z ht;obtain⟨hs1,hs2⟩:=qta hv hmem;have hi:=h.ins _ hmem;have ho:=h.outs _ hmem;obtain⟨hb1,hp1⟩:=qsv.1 hs1;obtain⟨hb2,hp2⟩:=qsv.1 hs2;exact⟨fun p hp=>by have:=hb1 p hp;omega,hp1,fun p hp=>by have:=hb2 p hp;omega,hp2,hi,ho,hmb,hml,hN⟩
section
variable {n : c9} {m : List Int} {T : ai} (F : FireF n m T)
include F
theorem FireF.len1:(gc (-1) T.2.1 m).length=m.length:=wj _ _ _
theorem FireF.len:(cw T m).length=m.length:=(wj _ _ _).trans (wj _ _ _)
theorem FireF.at1(q:Nat):(gc (-1) T.2.1 m).getD q 0=m.getD q 0+(if(q:Int)∈T.2.1 then-1 else 0):=qd0 (-1) T.2.1 m F.s1 F.i1 q
theorem FireF.i2' :∀p∈T.2.2.1,0≤p∧p<(gc (-1) T.2.1 m).length:=fun p hp=>by have:=F.i2 p hp;have:=F.len1;omega
theorem FireF.at_(q:Nat):(cw T m).getD q 0=m.getD q 0+(if(q:Int)∈T.2.1 then-1 else 0)+(if(q:Int)∈T.2.2.1 then 1 else 0):=by
 have:=qd0 1 T.2.2.1 (gc (-1) T.2.1 m) F.s2 F.i2' q;unfold cw;rw[this,F.at1]
theorem FireF.can(hc:kw T m=true):∀p∈T.2.1,1≤m.getD p.toNat 0:=fun p hp=>by
 unfold kw at hc;rw[Bool.not_eq_true',List.any_eq_false]at hc;have hpb:=F.i1 p hp;have:=F.mb p.toNat (by omega);have:¬m.getD p.toNat 0=0:=by simpa using hc p hp
 omega
theorem FireF.nn(hc:kw T m=true)(i:Nat)(hi:i<m.length):0≤(cw T m).getD i 0∧(cw T m).getD i 0≤101:=by
 rw[F.at_];have h5:=F.mb i hi;by_cases hin:(i:Int)∈T.2.1
 ·have:=F.can hc _ hin;rw[Int.toNat_natCast]at this;rw[if_pos hin];split<;>omega
 ·rw[if_neg hin];split<;>omega
end
theorem q2p{n:c9}(h:Small n)(hv:de n=true){m:List Int}(hm:df n.1 m=true){t:Nat}(ht:t<n.2.1.length):zd n m (t:Int)=some (qyq n m t):=by
 have F:=qyp h hv hm ht;have hN:=F.N;have hml:=F.ml;have hp:iy n m=some true:=by rw[qu h m (by omega),hv,hm];rfl
 unfold zd q8 qyq;rw[hp,Int.toNat_natCast];generalize n.2.1.getD t ai.z=T at F;have e1:=qqu T m (by have:=F.l1;omega) F.i1;cases hc:kw T m with
 |false=>
  rw[hc]at e1;simp(disch:=omega)only[e1,Bool.not_true,Bool.not_false,rs]
 |true=>
  rw[hc]at e1;have e2:=q5g T.1 T.2.1 T.2.2.1 m (by have:=F.l1;omega) F.s1 F.i1 (fun i hi=>by have:=F.mb i hi;omega);have hlen1:=F.len1;have e3:=q5h T.2.2.1 (gc (-1) T.2.1 m) (by have:=F.l2;omega) F.s2 F.i2' (fun i hi=>by
   have:=F.mb i (by omega);rw[F.at1 i];split<;>omega)
  have hlen:=F.len;have hlen' :(gc 1 T.2.2.1 (gc (-1) T.2.1 m)).length=m.length:=F.len;obtain⟨M,e4,hM1,i,hM2,hM3⟩:=je1 (gc 1 T.2.2.1 (gc (-1) T.2.1 m)) (by omega) (by omega);have e5:=qqb m (by omega);by_cases hM:(100:Int)<M
  ·have ha:(cw T m).any (fun k=>decide (100<k))=true:=List.any_eq_true.2 ⟨_,az 0 hM2,by have e:(cw T m).getD i 0=M:=hM3;rw[e];exact decide_eq_true hM⟩;rw[ha];simp(disch:=omega)only[e1,e5,e2,e3,e4,Bool.not_true,rs]
  ·have ha:(cw T m).any (fun k=>decide (100<k))=false:=List.any_eq_false.2 fun k hk=>by
    obtain⟨j,hj,rfl⟩:=j8 0 hk;have:=hM1 j hj;have hh:¬(100:Int)<(cw T m).getD j 0:=by show¬(100:Int)<(gc 1 T.2.2.1 (gc (-1) T.2.1 m)).getD j 0;omega
    simpa using hh
   rw[ha];simp(disch:=omega)only[e1,e5,e2,e3,e4,Bool.not_true,rs];rfl
theorem q56{n:c9}{m:List Int}{t:Nat}(ht:t<n.2.1.length)(F:FireF n m (n.2.1.getD t ai.z)):qn1 n m (t:Int)=some (kw (n.2.1.getD t ai.z) m):=by
 have hl:=F.l1;have hL:qow m (t:Int) n.1 n.2.1 n.2.2.1 n.2.2.2.1 0=some (bif (n.2.1.getD t ai.z).2.1.any (fun p=>decide (m.getD p.toNat 0=0))then .inr false else .inl ()):=by
  refine y7 (n.2.1.getD t ai.z).2.1 0 (fun p=>decide (m.getD p.toNat 0=0)) false (by omega) (fun i hi=> ?_) ?_
  ·have hb:=F.i1 _ (az 0 hi);have hq:=F.mb ((n.2.1.getD t ai.z).2.1.getD i 0).toNat (by omega);by_cases h0:m.getD ((n.2.1.getD t ai.z).2.1.getD i 0).toNat 0=0
   ·rw[decide_eq_true h0];simp(disch:=omega)only[yr,rs]
   ·rw[decide_eq_false h0];simp(disch:=omega)only[yr,rs];rw[aj]
  ·simp(disch:=omega)only[yr,rs]
 unfold qn1 kw;rw[hL,iz];cases(n.2.1.getD t ai.z).2.1.any (fun p=>decide (m.getD p.toNat 0=0))<;>rfl
theorem qt3(c:Int)(l:List Int)(i:Nat)(hi:i<l.length)(m:List Int):gc c (l.take (i+1)) m=(gc c (l.take i) m).set (l.getD i 0).toNat ((gc c (l.take i) m).getD (l.getD i 0).toNat 0+c):=by
 unfold gc;rw[cb l i 0 hi,List.foldl_append];rfl
theorem q36{l:List Int}(h:l.Pairwise (·<·))(i:Nat):(l.take i).Pairwise (·<·):=h.sublist (List.take_sublist i l)
theorem qz6{a b:ByteArray}(h:xp a b=true):a=b:=by
 have h1:(a.data==b.data)=true:=h;have h2:a.data=b.data:=beq_iff_eq.1 h1;cases a;cases b;congr
theorem qs6(a:ByteArray):xp a a=true:=by
 show(a.data==a.data)=true;exact beq_self_eq_true _
theorem qic{a b:ByteArray}:xp a b=true↔a=b:=⟨qz6,fun h=>by rw[h];exact qs6 b⟩
theorem quu{β:Type}(k k' :ByteArray)(x:β):∀(l:List (ByteArray×β)),b8 .str k (ua .str k' x l)=bif xp k k' then some x else b8 .str k l
 |[]=>rfl
 |e::l=>by
  show b8 .str k (bif xp k' e.1 then(k',x)::l else e::ua .str k' x l)=bif xp k k' then some x else bif xp k e.1 then some e.2 else b8 .str k l;cases h:xp k' e.1 with
  |true=>
   have he:k' =e.1:=qic.1 h;show(bif xp k k' then some x else b8 .str k l)=_;rw[←he];cases xp k k' <;>rfl
  |false=>
   show(bif xp k e.1 then some e.2 else b8 .str k (ua .str k' x l))=_;rw[quu k k' x l];cases h1:xp k e.1 with
   |false=>rfl
   |true=>
    cases h2:xp k k' with
    |false=>rfl
    |true=>
     have:xp k' e.1=true:=qic.2 ((qic.1 h2).symm.trans (qic.1 h1));rw[this]at h;cases h
end Go.Proofs.Ytokeielgplbdeaa
