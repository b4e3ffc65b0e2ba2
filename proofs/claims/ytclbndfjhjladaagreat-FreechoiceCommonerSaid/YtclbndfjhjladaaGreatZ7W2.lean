/-
  Siphon: the minimal siphons as the program finds them.
-/
import Derived.Test.YtclbndfjhjladaaGreatZ7W1
set_option linter.all false
namespace Go.Proofs.YtclbndfjhjladaaGreat
open Go.K Go.M
theorem jmv{α:Type}(l:List α)(f:α→Int)(d:α)(i:Nat)(h:i<l.length):(l.map f).getD i 0=f (l.getD i d):=by
 simp[List.getD_eq_getElem?_getD,h]
theorem j47(s i:Nat):decide (((s&&&2 ^ i:Nat):Int)=0)= !s.testBit i:=by
 have e:(((s&&&2 ^ i:Nat):Int)=0)↔s&&&2 ^ i=0:=by omega
 cases h:s.testBit i with
 |true=>
  refine decide_eq_false fun hc=>jbc.1 (e.1 hc) i ⟨h,?_⟩
  simp[Nat.testBit_two_pow]
 |false=>
  refine decide_eq_true (e.2 (jbc.2 fun p hp=> ?_));rw[Nat.testBit_two_pow]at hp;have:=of_decide_eq_true hp.2;subst this;rw[h]at hp;cases hp.1
theorem jpp{l:List Int}{N s:Nat}(h:∀x∈l,(0:Int)≤x∧x<(N:Int))(hs:s<2 ^ 32)(hN:N≤16):decide (ey .and .u32 ((qt l:Nat):Int) (s:Int)=0)= !qb1 l (jz N s):=by
 have hm:qt l<2 ^ N:=jsh h;have h16:2 ^ N≤2 ^ 16:=Nat.pow_le_pow_right (by omega) hN;rw[j16 _ _ (by omega) hs,←j17 h];exact decide_eq_decide.2 ⟨fun h=>by omega,fun h=>by omega⟩
section
variable (n : dj) (N : Nat) (hn : n.1 = (N : Int)) (hN : N ≤ 16) (hs : Small n) (hv : n5 n = true)
include hn hN hs hv
omit hN hs in
theorem j3a{t:ab}(ht:t∈n.2.1):(∀x∈t.2.1,(0:Int)≤x∧x<(N:Int))∧∀x∈t.2.2.1,(0:Int)≤x∧x<(N:Int):=by
 have:=qvp hv ht;rw[←hn];exact⟨(qvj.1 this.1).1,(qvj.1 this.2).1⟩
abbrev mIn(n:dj):List Int:=n.2.1.map fun t=>((qt t.2.1:Nat):Int)
abbrev jse(n:dj):List Int:=n.2.1.map fun t=>((qt t.2.2.1:Nat):Int)
theorem j3s:q0e n.2.1 (n.2.1.length:Int) n.1 n.2.1 n.2.2.1 n.2.2.2.1 (0,[],[])=some (.inl (mIn n,jse n)):=by
 have hlen:=hs.trans;have e:(mIn n,jse n)=((n.2.1.take n.2.1.length).map fun t=>((qt t.2.1:Nat):Int),(n.2.1.take n.2.1.length).map fun t=>((qt t.2.2.1:Nat):Int)):=by rw[List.take_length]
 rw[e];refine qfh (fun i:Nat=>((i:Int),((n.2.1.take i).map fun t=>((qt t.2.1:Nat):Int)),(n.2.1.take i).map fun t=>((qt t.2.2.1:Nat):Int))) n.2.1.length (fg (by omega)) _ (fun i hi=> ?_) ?_ _ rfl
 ·have ht:=bm ab.z hi;obtain⟨h1,h2⟩:=j3a n N hn hv ht;have e1:=juy h1 hN (Nat.le_trans (hs.ins _ ht) (by omega));have e2:=juy h2 hN (Nat.le_trans (hs.outs _ ht) (by omega));have l1:((n.2.1.take i).map fun t=>((qt t.2.1:Nat):Int)).length=i:=by rw[List.length_map,List.length_take];omega
  have l2:((n.2.1.take i).map fun t=>((qt t.2.2.1:Nat):Int)).length=i:=by rw[List.length_map,List.length_take];omega
  rw[j4 n.2.1 i ab.z hi,List.map_append,List.map_append];simp only[qdd,Int.toNat_natCast,e1,e2,ao,l1,l2];simp(disch:=omega)only[rs];rw[ar];rfl
 ·simp(disch:=omega)only[qdd,rs]
noncomputable def qs3(n:dj)(N s i:Nat):List Bool:=cp (2 ^ N) fun k=>if k=s then qio n N i s else decide (k<s)&&jkr n N k
noncomputable def jky(n:dj)(N s:Nat):List Bool:=cp (2 ^ N) fun k=>decide (k<s)&&jkr n N k
theorem j3t(s:Nat)(h1:1≤s)(hsN:s<2 ^ N)(a b c d:List Int):q0f a b (s:Int) (N:Int) n.1 n.2.1 n.2.2.1 n.2.2.2.1 c (0,jky n N s)=some (.inl (qs3 n N s N)):=by
 have h16:2 ^ N≤2 ^ 16:=Nat.pow_le_pow_right (by omega) hN;refine qfh (fun i:Nat=>((i:Int),qs3 n N s i)) N (fg (by omega)) _ (fun i hi=> ?_) ?_ _ ?_
 ·have hp:2 ^ i<2 ^ 32:=Nat.pow_lt_pow_right (by omega) (by omega);have e1:=j4l (show i<32 by omega);have e2:=j16 s (2 ^ i) (by omega) hp;have e3:=j47 s i;have e4:=zhd s i;cases hb:s.testBit i with
  |false=>
   have e5:qs3 n N s (i+1)=qs3 n N s i:=by
    unfold qs3;rw[show qio n N (i+1) s=qio n N i s by rw[q7f,hb];simp]
   rw[e5];rw[hb]at e3;simp only[pb,e1,e2,e3];simp(disch:=omega)only[rs];rw[ar,n9 (decide_eq_true (Int.natCast_nonneg i))]
  |true=>
   rw[hb]at e3;have hlt:=j2l (by omega) hb;have hlen:(qs3 n N s i).length=2 ^ N:=jd6 _ _;have e6:(qs3 n N s i).getD (clr s i) false=jkr n N (clr s i):=by
    unfold qs3;rw[jd5 (by omega),if_neg (by omega),decide_eq_true hlt,Bool.true_and]
   cases hq:jkr n N (clr s i)with
   |false=>
    have e5:qs3 n N s (i+1)=qs3 n N s i:=by
     unfold qs3;rw[show qio n N (i+1) s=qio n N i s by rw[q7f,hb,hq];simp]
    rw[e5];rw[hq]at e6;simp only[pb,e1,e2,e3,e4,Int.toNat_natCast,e6,hlen];simp(disch:=omega)only[rs];rw[ar,n9 (decide_eq_true (Int.natCast_nonneg i))]
   |true=>
    have e5:qs3 n N s (i+1)=(qs3 n N s i).set s true:=by
     unfold qs3;rw[js7,show qio n N (i+1) s=true by rw[q7f,hb,hq];simp];refine qjf fun k _=> ?_
     by_cases hk:k=s
     ·rw[if_pos hk,if_pos hk]
     ·rw[if_neg hk,if_neg hk,if_neg hk]
    rw[e5];rw[hq]at e6;simp only[pb,e1,e2,e3,e4,Int.toNat_natCast,e6,hlen];simp(disch:=omega)only[rs];rw[ar,n9 (decide_eq_true (Int.natCast_nonneg i))]
 ·simp(disch:=omega)only[pb,rs]
 ·unfold qs3 jky;congr 1;refine qjf fun k _=> ?_
  by_cases hk:k=s
  ·subst hk;rw[if_pos rfl,decide_eq_false (Nat.lt_irrefl k)];rfl
  ·rw[if_neg hk]
theorem j3u(s:Nat)(hsN:s<2 ^ N)(T:List Bool)(F:List Int):q0g (mIn n) (jse n) (s:Int) ((mIn n).length:Int) n.1 n.2.1 n.2.2.1 n.2.2.2.1 T F (true,0)=some (.inl (clo n N s)):=by
 have h16:2 ^ N≤2 ^ 16:=Nat.pow_le_pow_right (by omega) hN;have hlen:=hs.trans;have l1:(mIn n).length=n.2.1.length:=List.length_map ..;have l2:(jse n).length=n.2.1.length:=List.length_map ..;have e:clo n N s=(n.2.1.take n.2.1.length).all fun t=> !qwx false (jz N s) t:=by
  rw[List.take_length];unfold clo qwa;rw[List.not_any_eq_all_not]
 rw[e,l1];refine qfh (fun i:Nat=>((n.2.1.take i).all fun t=> !qwx false (jz N s) t,(i:Int))) n.2.1.length (fg (by omega)) _ (fun i hi=> ?_) ?_ _ rfl
 ·have ht:=bm ab.z hi;obtain⟨h1,h2⟩:=j3a n N hn hv ht;have g1:(mIn n).getD i 0=_:=jmv n.2.1 (fun t=>((qt t.2.1:Nat):Int)) ab.z i hi;have g2:(jse n).getD i 0=_:=jmv n.2.1 (fun t=>((qt t.2.2.1:Nat):Int)) ab.z i hi;have m1:=jpp (s:=s) h1 (by omega) hN;have m2:=jpp (s:=s) h2 (by omega) hN;have e3:((n.2.1.take (i+1)).all fun t=> !qwx false (jz N s) t)=(((n.2.1.take i).all fun t=> !qwx false (jz N s) t)&& !(qb1 (n.2.1.getD i ab.z).2.2.1 (jz N s)&& !qb1 (n.2.1.getD i ab.z).2.1 (jz N s))):=by
   rw[j4 n.2.1 i ab.z hi,List.all_append];congr 1;show((_&&true):Bool)=_;rw[Bool.and_true];rfl
  rw[e3];simp only[qde,Int.toNat_natCast,g1,g2,m1,m2,l1,l2];simp(disch:=omega)only[rs];rw[ar];cases((n.2.1.take i).all fun t=> !qwx false (jz N s) t)<;>cases qb1 (n.2.1.getD i ab.z).2.2.1 (jz N s)<;>cases qb1 (n.2.1.getD i ab.z).2.1 (jz N s)<;>rfl
 ·simp(disch:=omega)only[qde,rs]
noncomputable def zn(n:dj)(N s:Nat):List Nat:=(List.range s).filter (q58 n N)
omit hn hN hs hv in
theorem q5j(n:dj)(N s:Nat):zn n N (s+1)=bif q58 n N s then zn n N s++[s]else zn n N s:=by
 unfold zn;rw[List.range_succ,List.filter_append];cases h:q58 n N s<;>simp[h]
theorem j3v:qpw (mIn n) (jse n) n.1 n.2.1 n.2.2.1 n.2.2.2.1 (1,jky n N 1,[])=some (.inl ((zn n N (2 ^ N)).map fun(k:Nat)=>(k:Int))):=by
 have h16:2 ^ N≤2 ^ 16:=Nat.pow_le_pow_right (by omega) hN;have h0:1≤2 ^ N:=Nat.one_le_two_pow;have hz:zn n N 1=[]:=by
  rw[q5j];rfl
 have eN:(2 ^ N-1)+1=2 ^ N:=by omega
 have e:(zn n N (2 ^ N)).map (fun(k:Nat)=>(k:Int))=(zn n N ((2 ^ N-1)+1)).map fun(k:Nat)=>(k:Int):=by rw[eN]
 have hsh:=j4l (show N<32 by omega);rw[e];refine qfh (fun i:Nat=>(((i+1:Nat):Int),jky n N (i+1),(zn n N (i+1)).map fun(k:Nat)=>(k:Int))) (2 ^ N-1) (fg (by omega)) _ (fun i hi=> ?_) ?_ _ ?_
 ·generalize hsi:i+1=s;have hsN:s<2 ^ N:=by omega
  have h1:1≤s:=by omega
  have e1:=j3t n N hn hN hs hv s h1 hsN (mIn n) (jse n) ((zn n N s).map fun(k:Nat)=>(k:Int)) [];have hlen:(qs3 n N s N).length=2 ^ N:=jd6 _ _;have hg:(qs3 n N s N).getD s false=qio n N N s:=by
   unfold qs3;rw[jd5 hsN,if_pos rfl]
  have hrec:=j6w (n:=n) hsN hN h1;have hw:IntKind.wrap .u32 ((s:Int)+1)=((s+1:Nat):Int):=by
   rw[ar];exact joo _ (by omega)
  have hfl:(zn n N s).length≤s:=by
   have:=List.length_filter_le (q58 n N) (List.range s);rw[List.length_range]at this;exact this
  have hfl' :((zn n N s).map fun(k:Nat)=>(k:Int)).length≤s:=by rw[List.length_map];exact hfl
  have hT:∀b,jkr n N s=b→jky n N (s+1)=cp (2 ^ N) fun k=>if k=s then b else decide (k<s)&&jkr n N k:=by
   intro b hb;unfold jky;refine qjf fun k _=> ?_
   by_cases hk:k=s
   ·rw[if_pos hk,hk,hb,decide_eq_true (by omega),Bool.true_and]
   ·rw[if_neg hk];congr 1;exact decide_eq_decide.2 ⟨fun h=>by omega,fun h=>by omega⟩
  have hlt:(s:Int)<((2 ^ N:Nat):Int):=by omega
  have hn0:(0:Int)≤(N:Int):=by omega
  show pc (mIn n) (jse n) n.1 n.2.1 n.2.2.1 n.2.2.2.1 (s:Int) (jky n N s) ((zn n N s).map fun(k:Nat)=>(k:Int)) _ _ _=_;unfold pc;rw[hn]at e1⊢;rw[n9 (decide_eq_true hn0),hsh,decide_eq_true hlt,cond_true,e1,ao,i6];cases hq:qio n N N s with
  |true=>
   rw[hq]at hg hrec;have e5:jky n N (s+1)=qs3 n N s N:=by
    rw[hT true hrec];unfold qs3;rw[hq]
   have e6:zn n N (s+1)=zn n N s:=by
    rw[q5j,show q58 n N s=false by unfold q58;rw[hq];simp];rfl
   rw[e5,e6];simp only[Int.toNat_natCast,hg,hlen,hw];simp(disch:=omega)only[rs]
  |false=>
   rw[hq]at hg hrec;rw[Bool.false_or]at hrec;have e2:=j3u n N hn hN hs hv s hsN (qs3 n N s N) ((zn n N s).map fun(k:Nat)=>(k:Int));rw[hn]at e2;have hmin:q58 n N s=clo n N s:=by
    unfold q58;rw[hq,decide_eq_true h1];rfl
   have e6:=q5j n N s;rw[hmin]at e6;cases hc:clo n N s with
   |true=>
    rw[hc]at hrec e2 e6;have e5:jky n N (s+1)=(qs3 n N s N).set s true:=by
     rw[hT true hrec];unfold qs3;rw[js7];refine qjf fun k _=> ?_
     by_cases hk:k=s
     ·rw[if_pos hk,if_pos hk]
     ·rw[if_neg hk,if_neg hk,if_neg hk]
    rw[e5,e6];simp only[Int.toNat_natCast,hg,hlen,hw,e2,ao,i6];simp(disch:=omega)only[rs];simp
   |false=>
    rw[hc]at hrec e2 e6;have e5:jky n N (s+1)=qs3 n N s N:=by
     rw[hT false hrec];unfold qs3;rw[hq]
    rw[e5,e6];simp only[Int.toNat_natCast,hg,hlen,hw,e2,ao,i6];simp(disch:=omega)only[rs]
 ·have hnlt:¬(((2 ^ N-1+1:Nat):Int))<((2 ^ N:Nat):Int):=by omega
  have hn0:(0:Int)≤(N:Int):=by omega
  show pc (mIn n) (jse n) n.1 n.2.1 n.2.2.1 n.2.2.2.1 _ _ _ _ _ _=_;unfold pc;rw[hn,n9 (decide_eq_true hn0),hsh,decide_eq_false hnlt];rfl
 ·rw[hz];rfl
theorem jw8:qlu n=some ((zn n N (2 ^ N)).map fun(k:Nat)=>(k:Int)):=by
 have h16:2 ^ N≤2 ^ 16:=Nat.pow_le_pow_right (by omega) hN;have hn0:(0:Int)≤(N:Int):=by omega
 have hsh:=zeb (show N<32 by omega);have e3:=j3v n N hn hN hs hv;have ez:List.replicate (2 ^ N) false=jky n N 1:=by
  rw[jzx];unfold jky;refine qjf fun k _=> ?_
  by_cases hk:k<1
  ·have:jkr n N k=false:=by
    refine Bool.eq_false_iff.2 fun hc=> ?_
    obtain⟨f,h1,h2,_⟩:=q61.1 hc;have:=js6 h2;omega
   rw[this,Bool.and_false]
  ·rw[decide_eq_false hk];rfl
 unfold qlu;rw[j3s n N hn hN hs hv,ao,i6];rw[hn]at e3⊢;rw[n9 (decide_eq_true hn0),hsh];clear hsh;have q0:(0:Int)≤((2 ^ N:Nat):Int):=Int.natCast_nonneg _;have q1:((2 ^ N:Nat):Int)≤65536:=Int.ofNat_le.2 h16;rw[jrf q0 (Int.le_refl _) (by omega) (by omega),Int.toNat_natCast,ez];show bnd (qpw _ _ _ _ _ _ _) _=_;rw[e3];rfl
end
end Go.Proofs.YtclbndfjhjladaaGreat
