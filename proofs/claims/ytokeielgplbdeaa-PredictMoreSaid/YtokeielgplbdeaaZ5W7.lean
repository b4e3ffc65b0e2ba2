/-
  Siphon: firing in full, keys of markings, markings that were met.
-/
import Derived.Test.YtokeielgplbdeaaZ5W5
set_option linter.all false
namespace Go.Proofs.Ytokeielgplbdeaa
open Go.K Go.M
def da(T:aj)(m:List Int):List Int:=gk 1 T.2.2.1 (gk (-1) T.2.1 m)
def q1k(n:dr)(m:List Int)(t:Nat):Int×List Int:=
 bif kq (n.2.1.getD t aj.z) m then(bif (da (n.2.1.getD t aj.z) m).any (fun k=>decide (100<k))then(5,[])else(0,da (n.2.1.getD t aj.z) m))else(12,[])
structure FireF (n : dr) (m : List Int) (T : aj) : Prop where
 i1 : ∀ p ∈ T.2.1, 0 ≤ p ∧ p < m.length
 s1 : T.2.1.Pairwise (· < ·)
 i2 : ∀ p ∈ T.2.2.1, 0 ≤ p ∧ p < m.length
 s2 : T.2.2.1.Pairwise (· < ·)
 l1 : T.2.1.length ≤ 60
 l2 : T.2.2.1.length ≤ 60
 mb : ∀ i, i < m.length → 0 ≤ m.getD i 0 ∧ m.getD i 0 ≤ 100
 ml : (m.length : Int) = n.1
 N : 1 ≤ n.1 ∧ n.1 ≤ 40
theorem q5p{n:dr}(h:Small n)(hv:em n=true){m:List Int}(hm:dg n.1 m=true){t:Nat}(ht:t<n.2.1.length):FireF n m (n.2.1.getD t aj.z):=by
 obtain⟨hml,hmb⟩:=q9.1 hm;have hN:1≤n.1∧n.1≤40:=by
  unfold em at hv;simp only[Bool.and_eq_true,decide_eq_true_eq]at hv;exact hv.1.1.1.1
 have hmem:n.2.1.getD t aj.z∈n.2.1:=ba aj.z ht;obtain⟨hs1,hs2⟩:=qrh hv hmem;have hi:=h.ins _ hmem;have ho:=h.outs _ hmem;obtain⟨hb1,hp1⟩:=qq2.1 hs1;obtain⟨hb2,hp2⟩:=qq2.1 hs2;exact⟨fun p hp=>by have:=hb1 p hp;omega,hp1,fun p hp=>by have:=hb2 p hp;omega,hp2,hi,ho,hmb,hml,hN⟩
section
variable {n : dr} {m : List Int} {T : aj} (F : FireF n m T)
include F
theorem FireF.len1:(gk (-1) T.2.1 m).length=m.length:=vx _ _ _
theorem FireF.len:(da T m).length=m.length:=(vx _ _ _).trans (vx _ _ _)
theorem FireF.at1(q:Nat):(gk (-1) T.2.1 m).getD q 0=m.getD q 0+(if(q:Int)∈T.2.1 then-1 else 0):=qcy (-1) T.2.1 m F.s1 F.i1 q
theorem FireF.i2' :∀p∈T.2.2.1,0≤p∧p<(gk (-1) T.2.1 m).length:=fun p hp=>by have:=F.i2 p hp;have:=F.len1;omega
theorem FireF.at_(q:Nat):(da T m).getD q 0=m.getD q 0+(if(q:Int)∈T.2.1 then-1 else 0)+(if(q:Int)∈T.2.2.1 then 1 else 0):=by
 have:=qcy 1 T.2.2.1 (gk (-1) T.2.1 m) F.s2 F.i2' q;unfold da;rw[this,F.at1]
theorem FireF.can(hc:kq T m=true):∀p∈T.2.1,1≤m.getD p.toNat 0:=fun p hp=>by
 unfold kq at hc;rw[Bool.not_eq_true',List.any_eq_false]at hc;have hpb:=F.i1 p hp;have:=F.mb p.toNat (by omega);have:¬m.getD p.toNat 0=0:=by simpa using hc p hp
 omega
theorem FireF.nn(hc:kq T m=true)(i:Nat)(hi:i<m.length):0≤(da T m).getD i 0∧(da T m).getD i 0≤101:=by
 rw[F.at_];have h5:=F.mb i hi;by_cases hin:(i:Int)∈T.2.1
 ·have:=F.can hc _ hin;rw[Int.toNat_natCast]at this;rw[if_pos hin];split<;>omega
 ·rw[if_neg hin];split<;>omega
end
theorem q75{n:dr}(h:Small n)(hv:em n=true){m:List Int}(hm:dg n.1 m=true){t:Nat}(ht:t<n.2.1.length):qdf n m (t:Int)=some (q1k n m t):=by
 have F:=q5p h hv hm ht;have hN:=F.N;have hml:=F.ml;have hp:n5 n m=some true:=by rw[qed h m (by omega),hv,hm];rfl
 unfold qdf qil q1k;rw[hp,Int.toNat_natCast];generalize n.2.1.getD t aj.z=T at F;have e1:=qo3 T m (by have:=F.l1;omega) F.i1;cases hc:kq T m with
 |false=>
  rw[hc]at e1;simp(disch:=omega)only[e1,Bool.not_true,Bool.not_false,rs]
 |true=>
  rw[hc]at e1;have e2:=q3g T.1 T.2.1 T.2.2.1 m (by have:=F.l1;omega) F.s1 F.i1 (fun i hi=>by have:=F.mb i hi;omega);have hlen1:=F.len1;have e3:=q3h T.2.2.1 (gk (-1) T.2.1 m) (by have:=F.l2;omega) F.s2 F.i2' (fun i hi=>by
   have:=F.mb i (by omega);rw[F.at1 i];split<;>omega)
  have hlen:=F.len;have hlen' :(gk 1 T.2.2.1 (gk (-1) T.2.1 m)).length=m.length:=F.len;obtain⟨M,e4,hM1,i,hM2,hM3⟩:=jc3 (gk 1 T.2.2.1 (gk (-1) T.2.1 m)) (by omega) (by omega);have e5:=qwb m (by omega);by_cases hM:(100:Int)<M
  ·have ha:(da T m).any (fun k=>decide (100<k))=true:=List.any_eq_true.2 ⟨_,ba 0 hM2,by have e:(da T m).getD i 0=M:=hM3;rw[e];exact decide_eq_true hM⟩;rw[ha];simp(disch:=omega)only[e1,e5,e2,e3,e4,Bool.not_true,rs]
  ·have ha:(da T m).any (fun k=>decide (100<k))=false:=List.any_eq_false.2 fun k hk=>by
    obtain⟨j,hj,rfl⟩:=kd 0 hk;have:=hM1 j hj;have hh:¬(100:Int)<(da T m).getD j 0:=by show¬(100:Int)<(gk 1 T.2.2.1 (gk (-1) T.2.1 m)).getD j 0;omega
    simpa using hh
   rw[ha];simp(disch:=omega)only[e1,e5,e2,e3,e4,Bool.not_true,rs];rfl
theorem q34{n:dr}{m:List Int}{t:Nat}(ht:t<n.2.1.length)(F:FireF n m (n.2.1.getD t aj.z)):qmf n m (t:Int)=some (kq (n.2.1.getD t aj.z) m):=by
 have hl:=F.l1;have hL:qm8 m (t:Int) n.1 n.2.1 n.2.2.1 n.2.2.2.1 0=some (bif (n.2.1.getD t aj.z).2.1.any (fun p=>decide (m.getD p.toNat 0=0))then .inr false else .inl ()):=by
  refine yh (n.2.1.getD t aj.z).2.1 0 (fun p=>decide (m.getD p.toNat 0=0)) false (by omega) (fun i hi=> ?_) ?_
  ·have hb:=F.i1 _ (ba 0 hi);have hq:=F.mb ((n.2.1.getD t aj.z).2.1.getD i 0).toNat (by omega);by_cases h0:m.getD ((n.2.1.getD t aj.z).2.1.getD i 0).toNat 0=0
   ·rw[decide_eq_true h0];simp(disch:=omega)only[x6,rs]
   ·rw[decide_eq_false h0];simp(disch:=omega)only[x6,rs];rw[aq]
  ·simp(disch:=omega)only[x6,rs]
 unfold qmf kq;rw[hL,jl];cases(n.2.1.getD t aj.z).2.1.any (fun p=>decide (m.getD p.toNat 0=0))<;>rfl
theorem qse(c:Int)(l:List Int)(i:Nat)(hi:i<l.length)(m:List Int):gk c (l.take (i+1)) m=(gk c (l.take i) m).set (l.getD i 0).toNat ((gk c (l.take i) m).getD (l.getD i 0).toNat 0+c):=by
 unfold gk;rw[cx l i 0 hi,List.foldl_append];rfl
theorem q17{l:List Int}(h:l.Pairwise (·<·))(i:Nat):(l.take i).Pairwise (·<·):=h.sublist (List.take_sublist i l)
theorem qya{a b:ByteArray}(h:wu a b=true):a=b:=by
 have h1:(a.data==b.data)=true:=h;have h2:a.data=b.data:=beq_iff_eq.1 h1;cases a;cases b;congr
theorem qrd(a:ByteArray):wu a a=true:=by
 show(a.data==a.data)=true;exact beq_self_eq_true _
theorem qgz{a b:ByteArray}:wu a b=true↔a=b:=⟨qya,fun h=>by rw[h];exact qrd b⟩
theorem qs6{β:Type}(k k' :ByteArray)(x:β):∀(l:List (ByteArray×β)),ci .str k (tk .str k' x l)=bif wu k k' then some x else ci .str k l
 |[]=>rfl
 |e::l=>by
  show ci .str k (bif wu k' e.1 then(k',x)::l else e::tk .str k' x l)=bif wu k k' then some x else bif wu k e.1 then some e.2 else ci .str k l;cases h:wu k' e.1 with
  |true=>
   have he:k' =e.1:=qgz.1 h;show(bif wu k k' then some x else ci .str k l)=_;rw[←he];cases wu k k' <;>rfl
  |false=>
   show(bif wu k e.1 then some e.2 else ci .str k (tk .str k' x l))=_;rw[qs6 k k' x l];cases h1:wu k e.1 with
   |false=>rfl
   |true=>
    cases h2:wu k k' with
    |false=>rfl
    |true=>
     have:wu k' e.1=true:=qgz.2 ((qgz.1 h2).symm.trans (qgz.1 h1));rw[this]at h;cases h
end Go.Proofs.Ytokeielgplbdeaa
