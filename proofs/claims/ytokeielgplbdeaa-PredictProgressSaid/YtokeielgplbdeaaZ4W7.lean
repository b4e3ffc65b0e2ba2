/-
  Siphon: firing in full, keys of markings, markings that were met.
-/
import Derived.Test.YtokeielgplbdeaaZ4W5
set_option linter.all false
namespace Go.Proofs.Ytokeielgplbdeaa
open Go.K Go.M
def ce(T:ai)(m:List Int):List Int:=gh 1 T.2.2.1 (gh (-1) T.2.1 m)
def q2s(n:c8)(m:List Int)(t:Nat):Int×List Int:=
 bif jl (n.2.1.getD t ai.z) m then(bif (ce (n.2.1.getD t ai.z) m).any (fun k=>decide (100<k))then(5,[])else(0,ce (n.2.1.getD t ai.z) m))else(12,[])
structure FireF (n : c8) (m : List Int) (T : ai) : Prop where
 i1 : ∀ p ∈ T.2.1, 0 ≤ p ∧ p < m.length
 s1 : T.2.1.Pairwise (· < ·)
 i2 : ∀ p ∈ T.2.2.1, 0 ≤ p ∧ p < m.length
 s2 : T.2.2.1.Pairwise (· < ·)
 l1 : T.2.1.length ≤ 60
 l2 : T.2.2.1.length ≤ 60
 mb : ∀ i, i < m.length → 0 ≤ m.getD i 0 ∧ m.getD i 0 ≤ 100
 ml : (m.length : Int) = n.1
 N : 1 ≤ n.1 ∧ n.1 ≤ 40
theorem q2r{n:c8}(h:Small n)(hv:db n=true){m:List Int}(hm:de n.1 m=true){t:Nat}(ht:t<n.2.1.length):FireF n m (n.2.1.getD t ai.z):=by
 obtain⟨hml,hmb⟩:=ko.1 hm;have hN:1≤n.1∧n.1≤40:=by
  unfold db at hv;simp only[Bool.and_eq_true,decide_eq_true_eq]at hv;exact hv.1.1.1.1
 have hmem:n.2.1.getD t ai.z∈n.2.1:=aw ai.z ht;obtain⟨hs1,hs2⟩:=qsk hv hmem;have hi:=h.ins _ hmem;have ho:=h.outs _ hmem;obtain⟨hb1,hp1⟩:=qr5.1 hs1;obtain⟨hb2,hp2⟩:=qr5.1 hs2;exact⟨fun p hp=>by have:=hb1 p hp;omega,hp1,fun p hp=>by have:=hb2 p hp;omega,hp2,hi,ho,hmb,hml,hN⟩
section
variable {n : c8} {m : List Int} {T : ai} (F : FireF n m T)
include F
theorem FireF.len1:(gh (-1) T.2.1 m).length=m.length:=wl _ _ _
theorem FireF.len:(ce T m).length=m.length:=(wl _ _ _).trans (wl _ _ _)
theorem FireF.at1(q:Nat):(gh (-1) T.2.1 m).getD q 0=m.getD q 0+(if(q:Int)∈T.2.1 then-1 else 0):=qdt (-1) T.2.1 m F.s1 F.i1 q
theorem FireF.i2' :∀p∈T.2.2.1,0≤p∧p<(gh (-1) T.2.1 m).length:=fun p hp=>by have:=F.i2 p hp;have:=F.len1;omega
theorem FireF.at_(q:Nat):(ce T m).getD q 0=m.getD q 0+(if(q:Int)∈T.2.1 then-1 else 0)+(if(q:Int)∈T.2.2.1 then 1 else 0):=by
 have:=qdt 1 T.2.2.1 (gh (-1) T.2.1 m) F.s2 F.i2' q;unfold ce;rw[this,F.at1]
theorem FireF.can(hc:jl T m=true):∀p∈T.2.1,1≤m.getD p.toNat 0:=fun p hp=>by
 unfold jl at hc;rw[Bool.not_eq_true',List.any_eq_false]at hc;have hpb:=F.i1 p hp;have:=F.mb p.toNat (by omega);have:¬m.getD p.toNat 0=0:=by simpa using hc p hp
 omega
theorem FireF.nn(hc:jl T m=true)(i:Nat)(hi:i<m.length):0≤(ce T m).getD i 0∧(ce T m).getD i 0≤101:=by
 rw[F.at_];have h5:=F.mb i hi;by_cases hin:(i:Int)∈T.2.1
 ·have:=F.can hc _ hin;rw[Int.toNat_natCast]at this;rw[if_pos hin];split<;>omega
 ·rw[if_neg hin];split<;>omega
end
theorem q1v{n:c8}(h:Small n)(hv:db n=true){m:List Int}(hm:de n.1 m=true){t:Nat}(ht:t<n.2.1.length):zc n m (t:Int)=some (q2s n m t):=by
 have F:=q2r h hv hm ht;have hN:=F.N;have hml:=F.ml;have hp:oh n m=some true:=by rw[qfd h m (by omega),hv,hm];rfl
 unfold zc qjk q2s;rw[hp,Int.toNat_natCast];generalize n.2.1.getD t ai.z=T at F;have e1:=qp9 T m (by have:=F.l1;omega) F.i1;cases hc:jl T m with
 |false=>
  rw[hc]at e1;simp(disch:=omega)only[e1,Bool.not_true,Bool.not_false,rs]
 |true=>
  rw[hc]at e1;have e2:=q4n T.1 T.2.1 T.2.2.1 m (by have:=F.l1;omega) F.s1 F.i1 (fun i hi=>by have:=F.mb i hi;omega);have hlen1:=F.len1;have e3:=q4o T.2.2.1 (gh (-1) T.2.1 m) (by have:=F.l2;omega) F.s2 F.i2' (fun i hi=>by
   have:=F.mb i (by omega);rw[F.at1 i];split<;>omega)
  have hlen:=F.len;have hlen' :(gh 1 T.2.2.1 (gh (-1) T.2.1 m)).length=m.length:=F.len;obtain⟨M,e4,hM1,i,hM2,hM3⟩:=jec (gh 1 T.2.2.1 (gh (-1) T.2.1 m)) (by omega) (by omega);have e5:=qxb m (by omega);by_cases hM:(100:Int)<M
  ·have ha:(ce T m).any (fun k=>decide (100<k))=true:=List.any_eq_true.2 ⟨_,aw 0 hM2,by have e:(ce T m).getD i 0=M:=hM3;rw[e];exact decide_eq_true hM⟩;rw[ha];simp(disch:=omega)only[e1,e5,e2,e3,e4,Bool.not_true,rs]
  ·have ha:(ce T m).any (fun k=>decide (100<k))=false:=List.any_eq_false.2 fun k hk=>by
    obtain⟨j,hj,rfl⟩:=i5 0 hk;have:=hM1 j hj;have hh:¬(100:Int)<(ce T m).getD j 0:=by show¬(100:Int)<(gh 1 T.2.2.1 (gh (-1) T.2.1 m)).getD j 0;omega
    simpa using hh
   rw[ha];simp(disch:=omega)only[e1,e5,e2,e3,e4,Bool.not_true,rs];rfl
theorem q5b{n:c8}{m:List Int}{t:Nat}(ht:t<n.2.1.length)(F:FireF n m (n.2.1.getD t ai.z)):qnh n m (t:Int)=some (jl (n.2.1.getD t ai.z) m):=by
 have hl:=F.l1;have hL:qoc m (t:Int) n.1 n.2.1 n.2.2.1 n.2.2.2.1 0=some (bif (n.2.1.getD t ai.z).2.1.any (fun p=>decide (m.getD p.toNat 0=0))then .inr false else .inl ()):=by
  refine y7 (n.2.1.getD t ai.z).2.1 0 (fun p=>decide (m.getD p.toNat 0=0)) false (by omega) (fun i hi=> ?_) ?_
  ·have hb:=F.i1 _ (aw 0 hi);have hq:=F.mb ((n.2.1.getD t ai.z).2.1.getD i 0).toNat (by omega);by_cases h0:m.getD ((n.2.1.getD t ai.z).2.1.getD i 0).toNat 0=0
   ·rw[decide_eq_true h0];simp(disch:=omega)only[yp,rs]
   ·rw[decide_eq_false h0];simp(disch:=omega)only[yp,rs];rw[aj]
  ·simp(disch:=omega)only[yp,rs]
 unfold qnh jl;rw[hL,i4];cases(n.2.1.getD t ai.z).2.1.any (fun p=>decide (m.getD p.toNat 0=0))<;>rfl
theorem qte(c:Int)(l:List Int)(i:Nat)(hi:i<l.length)(m:List Int):gh c (l.take (i+1)) m=(gh c (l.take i) m).set (l.getD i 0).toNat ((gh c (l.take i) m).getD (l.getD i 0).toNat 0+c):=by
 unfold gh;rw[cb l i 0 hi,List.foldl_append];rfl
theorem q3g{l:List Int}(h:l.Pairwise (·<·))(i:Nat):(l.take i).Pairwise (·<·):=h.sublist (List.take_sublist i l)
theorem qze{a b:ByteArray}(h:xn a b=true):a=b:=by
 have h1:(a.data==b.data)=true:=h;have h2:a.data=b.data:=beq_iff_eq.1 h1;cases a;cases b;congr
theorem qsg(a:ByteArray):xn a a=true:=by
 show(a.data==a.data)=true;exact beq_self_eq_true _
theorem qh2{a b:ByteArray}:xn a b=true↔a=b:=⟨qze,fun h=>by rw[h];exact qsg b⟩
theorem qt5{β:Type}(k k' :ByteArray)(x:β):∀(l:List (ByteArray×β)),cf .str k (t4 .str k' x l)=bif xn k k' then some x else cf .str k l
 |[]=>rfl
 |e::l=>by
  show cf .str k (bif xn k' e.1 then(k',x)::l else e::t4 .str k' x l)=bif xn k k' then some x else bif xn k e.1 then some e.2 else cf .str k l;cases h:xn k' e.1 with
  |true=>
   have he:k' =e.1:=qh2.1 h;show(bif xn k k' then some x else cf .str k l)=_;rw[←he];cases xn k k' <;>rfl
  |false=>
   show(bif xn k e.1 then some e.2 else cf .str k (t4 .str k' x l))=_;rw[qt5 k k' x l];cases h1:xn k e.1 with
   |false=>rfl
   |true=>
    cases h2:xn k k' with
    |false=>rfl
    |true=>
     have:xn k' e.1=true:=qh2.2 ((qh2.1 h2).symm.trans (qh2.1 h1));rw[this]at h;cases h
end Go.Proofs.Ytokeielgplbdeaa
