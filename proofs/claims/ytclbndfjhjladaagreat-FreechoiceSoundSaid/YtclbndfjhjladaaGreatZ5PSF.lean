/-
  Siphon: the minimal siphons as the program finds them.
-/
import Derived.Test.YtclbndfjhjladaaGreatZ5PSE
set_option linter.all false
namespace Go.Proofs.YtclbndfjhjladaaGreat
open Go.K Go.M
theorem q53{α:Type}(l:List α)(f:α→Int)(d:α)(i:Nat)(h:i<l.length):(l.map f).getD i 0=f (l.getD i d):=by
 simp[List.getD_eq_getElem?_getD,h]
theorem jr7(s i:Nat):decide (((s&&&2 ^ i:Nat):Int)=0)= !s.testBit i:=by
 have e:(((s&&&2 ^ i:Nat):Int)=0)↔s&&&2 ^ i=0:=by omega
 cases h:s.testBit i with
 |true=>
  refine decide_eq_false fun hc=>qt9.1 (e.1 hc) i ⟨h,?_⟩
  simp[Nat.testBit_two_pow]
 |false=>
  refine decide_eq_true (e.2 (qt9.2 fun p hp=> ?_));rw[Nat.testBit_two_pow]at hp;have:=of_decide_eq_true hp.2;subst this;rw[h]at hp;cases hp.1
theorem q85{l:List Int}{N s:Nat}(h:∀x∈l,(0:Int)≤x∧x<(N:Int))(hs:s<2 ^ 32)(hN:N≤16):decide (yi .and .u32 ((k7 l:Nat):Int) (s:Int)=0)= !qnp l (ij N s):=by
 have hm:k7 l<2 ^ N:=jcj h;have h16:2 ^ N≤2 ^ 16:=Nat.pow_le_pow_right (by omega) hN;rw[jn8 _ _ (by omega) hs,←jn9 h];exact decide_eq_decide.2 ⟨fun h=>by omega,fun h=>by omega⟩
section
variable (n : bp) (N : Nat) (hn : n.1 = (N : Int)) (hN : N ≤ 16) (hs : Small n) (hv : ck n = true)
include hn hN hs hv
omit hN hs in
theorem jpt{t:ae}(ht:t∈n.2.1):(∀x∈t.2.1,(0:Int)≤x∧x<(N:Int))∧∀x∈t.2.2.1,(0:Int)≤x∧x<(N:Int):=by
 have:=qms hv ht;rw[←hn];exact⟨(qdq.1 this.1).1,(qdq.1 this.2).1⟩
abbrev mIn(n:bp):List Int:=n.2.1.map fun t=>((k7 t.2.1:Nat):Int)
abbrev jch(n:bp):List Int:=n.2.1.map fun t=>((k7 t.2.2.1:Nat):Int)
theorem jp6:qki n.2.1 (n.2.1.length:Int) n.1 n.2.1 n.2.2.1 n.2.2.2.1 (0,[],[])=some (.inl (mIn n,jch n)):=by
 have hlen:=hs.trans;have e:(mIn n,jch n)=((n.2.1.take n.2.1.length).map fun t=>((k7 t.2.1:Nat):Int),(n.2.1.take n.2.1.length).map fun t=>((k7 t.2.2.1:Nat):Int)):=by rw[List.take_length]
 rw[e];refine cn (fun i:Nat=>((i:Int),((n.2.1.take i).map fun t=>((k7 t.2.1:Nat):Int)),(n.2.1.take i).map fun t=>((k7 t.2.2.1:Nat):Int))) n.2.1.length (bc (by omega)) _ (fun i hi=> ?_) ?_ _ rfl
 ·have ht:=au ae.z hi;obtain⟨h1,h2⟩:=jpt n N hn hv ht;have e1:=jfm h1 hN (Nat.le_trans (hs.ins _ ht) (by omega));have e2:=jfm h2 hN (Nat.le_trans (hs.outs _ ht) (by omega));have l1:((n.2.1.take i).map fun t=>((k7 t.2.1:Nat):Int)).length=i:=by rw[List.length_map,List.length_take];omega
  have l2:((n.2.1.take i).map fun t=>((k7 t.2.2.1:Nat):Int)).length=i:=by rw[List.length_map,List.length_take];omega
  rw[d7 n.2.1 i ae.z hi,List.map_append,List.map_append];simp only[tm,Int.toNat_natCast,e1,e2,ax,l1,l2];simp(disch:=omega)only[rs];rw[ah];rfl
 ·simp(disch:=omega)only[tm,rs]
noncomputable def qej(n:bp)(N s i:Nat):List Bool:=bh (2 ^ N) fun k=>if k=s then xq n N i s else decide (k<s)&&q3n n N k
noncomputable def q3r(n:bp)(N s:Nat):List Bool:=bh (2 ^ N) fun k=>decide (k<s)&&q3n n N k
theorem jp7(s:Nat)(h1:1≤s)(hsN:s<2 ^ N)(a b c d:List Int):qkj a b (s:Int) (N:Int) n.1 n.2.1 n.2.2.1 n.2.2.2.1 c (0,q3r n N s)=some (.inl (qej n N s N)):=by
 have h16:2 ^ N≤2 ^ 16:=Nat.pow_le_pow_right (by omega) hN;refine cn (fun i:Nat=>((i:Int),qej n N s i)) N (bc (by omega)) _ (fun i hi=> ?_) ?_ _ ?_
 ·have hp:2 ^ i<2 ^ 32:=Nat.pow_lt_pow_right (by omega) (by omega);have e1:=jra (show i<32 by omega);have e2:=jn8 s (2 ^ i) (by omega) hp;have e3:=jr7 s i;have e4:=j5k s i;cases hb:s.testBit i with
  |false=>
   have e5:qej n N s (i+1)=qej n N s i:=by
    unfold qej;rw[show xq n N (i+1) s=xq n N i s by rw[qq0,hb];simp]
   rw[e5];rw[hb]at e3;simp only[jv,e1,e2,e3];simp(disch:=omega)only[rs];rw[ah,pz (decide_eq_true (Int.natCast_nonneg i))]
  |true=>
   rw[hb]at e3;have hlt:=jor (by omega) hb;have hlen:(qej n N s i).length=2 ^ N:=cq _ _;have e6:(qej n N s i).getD (q81 s i) false=q3n n N (q81 s i):=by
    unfold qej;rw[fq (by omega),if_neg (by omega),decide_eq_true hlt,Bool.true_and]
   cases hq:q3n n N (q81 s i)with
   |false=>
    have e5:qej n N s (i+1)=qej n N s i:=by
     unfold qej;rw[show xq n N (i+1) s=xq n N i s by rw[qq0,hb,hq];simp]
    rw[e5];rw[hq]at e6;simp only[jv,e1,e2,e3,e4,Int.toNat_natCast,e6,hlen];simp(disch:=omega)only[rs];rw[ah,pz (decide_eq_true (Int.natCast_nonneg i))]
   |true=>
    have e5:qej n N s (i+1)=(qej n N s i).set s true:=by
     unfold qej;rw[qr,show xq n N (i+1) s=true by rw[qq0,hb,hq];simp];refine cd fun k _=> ?_
     by_cases hk:k=s
     ·rw[if_pos hk,if_pos hk]
     ·rw[if_neg hk,if_neg hk,if_neg hk]
    rw[e5];rw[hq]at e6;simp only[jv,e1,e2,e3,e4,Int.toNat_natCast,e6,hlen];simp(disch:=omega)only[rs];rw[ah,pz (decide_eq_true (Int.natCast_nonneg i))]
 ·simp(disch:=omega)only[jv,rs]
 ·unfold qej q3r;congr 1;refine cd fun k _=> ?_
  by_cases hk:k=s
  ·subst hk;rw[if_pos rfl,decide_eq_false (Nat.lt_irrefl k)];rfl
  ·rw[if_neg hk]
theorem jp8(s:Nat)(hsN:s<2 ^ N)(T:List Bool)(F:List Int):qkk (mIn n) (jch n) (s:Int) ((mIn n).length:Int) n.1 n.2.1 n.2.2.1 n.2.2.2.1 T F (true,0)=some (.inl (clo n N s)):=by
 have h16:2 ^ N≤2 ^ 16:=Nat.pow_le_pow_right (by omega) hN;have hlen:=hs.trans;have l1:(mIn n).length=n.2.1.length:=List.length_map ..;have l2:(jch n).length=n.2.1.length:=List.length_map ..;have e:clo n N s=(n.2.1.take n.2.1.length).all fun t=> !q09 false (ij N s) t:=by
  rw[List.take_length];unfold clo q3w;rw[List.not_any_eq_all_not]
 rw[e,l1];refine cn (fun i:Nat=>((n.2.1.take i).all fun t=> !q09 false (ij N s) t,(i:Int))) n.2.1.length (bc (by omega)) _ (fun i hi=> ?_) ?_ _ rfl
 ·have ht:=au ae.z hi;obtain⟨h1,h2⟩:=jpt n N hn hv ht;have g1:(mIn n).getD i 0=_:=q53 n.2.1 (fun t=>((k7 t.2.1:Nat):Int)) ae.z i hi;have g2:(jch n).getD i 0=_:=q53 n.2.1 (fun t=>((k7 t.2.2.1:Nat):Int)) ae.z i hi;have m1:=q85 (s:=s) h1 (by omega) hN;have m2:=q85 (s:=s) h2 (by omega) hN;have e3:((n.2.1.take (i+1)).all fun t=> !q09 false (ij N s) t)=(((n.2.1.take i).all fun t=> !q09 false (ij N s) t)&& !(qnp (n.2.1.getD i ae.z).2.2.1 (ij N s)&& !qnp (n.2.1.getD i ae.z).2.1 (ij N s))):=by
   rw[d7 n.2.1 i ae.z hi,List.all_append];congr 1;show((_&&true):Bool)=_;rw[Bool.and_true];rfl
  rw[e3];simp only[tn,Int.toNat_natCast,g1,g2,m1,m2,l1,l2];simp(disch:=omega)only[rs];rw[ah];cases((n.2.1.take i).all fun t=> !q09 false (ij N s) t)<;>cases qnp (n.2.1.getD i ae.z).2.2.1 (ij N s)<;>cases qnp (n.2.1.getD i ae.z).2.1 (ij N s)<;>rfl
 ·simp(disch:=omega)only[tn,rs]
noncomputable def o5(n:bp)(N s:Nat):List Nat:=(List.range s).filter (qrr n N)
omit hn hN hs hv in
theorem qpg(n:bp)(N s:Nat):o5 n N (s+1)=bif qrr n N s then o5 n N s++[s]else o5 n N s:=by
 unfold o5;rw[List.range_succ,List.filter_append];cases h:qrr n N s<;>simp[h]
theorem jp9:qca (mIn n) (jch n) n.1 n.2.1 n.2.2.1 n.2.2.2.1 (1,q3r n N 1,[])=some (.inl ((o5 n N (2 ^ N)).map fun(k:Nat)=>(k:Int))):=by
 have h16:2 ^ N≤2 ^ 16:=Nat.pow_le_pow_right (by omega) hN;have h0:1≤2 ^ N:=Nat.one_le_two_pow;have hz:o5 n N 1=[]:=by
  rw[qpg];rfl
 have eN:(2 ^ N-1)+1=2 ^ N:=by omega
 have e:(o5 n N (2 ^ N)).map (fun(k:Nat)=>(k:Int))=(o5 n N ((2 ^ N-1)+1)).map fun(k:Nat)=>(k:Int):=by rw[eN]
 have hsh:=jra (show N<32 by omega);rw[e];refine cn (fun i:Nat=>(((i+1:Nat):Int),q3r n N (i+1),(o5 n N (i+1)).map fun(k:Nat)=>(k:Int))) (2 ^ N-1) (bc (by omega)) _ (fun i hi=> ?_) ?_ _ ?_
 ·generalize hsi:i+1=s;have hsN:s<2 ^ N:=by omega
  have h1:1≤s:=by omega
  have e1:=jp7 n N hn hN hs hv s h1 hsN (mIn n) (jch n) ((o5 n N s).map fun(k:Nat)=>(k:Int)) [];have hlen:(qej n N s N).length=2 ^ N:=cq _ _;have hg:(qej n N s N).getD s false=xq n N N s:=by
   unfold qej;rw[fq hsN,if_pos rfl]
  have hrec:=jub (n:=n) hsN hN h1;have hw:IntKind.wrap .u32 ((s:Int)+1)=((s+1:Nat):Int):=by
   rw[ah];exact q71 _ (by omega)
  have hfl:(o5 n N s).length≤s:=by
   have:=List.length_filter_le (qrr n N) (List.range s);rw[List.length_range]at this;exact this
  have hfl' :((o5 n N s).map fun(k:Nat)=>(k:Int)).length≤s:=by rw[List.length_map];exact hfl
  have hT:∀b,q3n n N s=b→q3r n N (s+1)=bh (2 ^ N) fun k=>if k=s then b else decide (k<s)&&q3n n N k:=by
   intro b hb;unfold q3r;refine cd fun k _=> ?_
   by_cases hk:k=s
   ·rw[if_pos hk,hk,hb,decide_eq_true (by omega),Bool.true_and]
   ·rw[if_neg hk];congr 1;exact decide_eq_decide.2 ⟨fun h=>by omega,fun h=>by omega⟩
  have hlt:(s:Int)<((2 ^ N:Nat):Int):=by omega
  have hn0:(0:Int)≤(N:Int):=by omega
  show jw (mIn n) (jch n) n.1 n.2.1 n.2.2.1 n.2.2.2.1 (s:Int) (q3r n N s) ((o5 n N s).map fun(k:Nat)=>(k:Int)) _ _ _=_;unfold jw;rw[hn]at e1⊢;rw[pz (decide_eq_true hn0),hsh,decide_eq_true hlt,cond_true,e1,ax,lj];cases hq:xq n N N s with
  |true=>
   rw[hq]at hg hrec;have e5:q3r n N (s+1)=qej n N s N:=by
    rw[hT true hrec];unfold qej;rw[hq]
   have e6:o5 n N (s+1)=o5 n N s:=by
    rw[qpg,show qrr n N s=false by unfold qrr;rw[hq];simp];rfl
   rw[e5,e6];simp only[Int.toNat_natCast,hg,hlen,hw];simp(disch:=omega)only[rs]
  |false=>
   rw[hq]at hg hrec;rw[Bool.false_or]at hrec;have e2:=jp8 n N hn hN hs hv s hsN (qej n N s N) ((o5 n N s).map fun(k:Nat)=>(k:Int));rw[hn]at e2;have hmin:qrr n N s=clo n N s:=by
    unfold qrr;rw[hq,decide_eq_true h1];rfl
   have e6:=qpg n N s;rw[hmin]at e6;cases hc:clo n N s with
   |true=>
    rw[hc]at hrec e2 e6;have e5:q3r n N (s+1)=(qej n N s N).set s true:=by
     rw[hT true hrec];unfold qej;rw[qr];refine cd fun k _=> ?_
     by_cases hk:k=s
     ·rw[if_pos hk,if_pos hk]
     ·rw[if_neg hk,if_neg hk,if_neg hk]
    rw[e5,e6];simp only[Int.toNat_natCast,hg,hlen,hw,e2,ax,lj];simp(disch:=omega)only[rs];simp
   |false=>
    rw[hc]at hrec e2 e6;have e5:q3r n N (s+1)=qej n N s N:=by
     rw[hT false hrec];unfold qej;rw[hq]
    rw[e5,e6];simp only[Int.toNat_natCast,hg,hlen,hw,e2,ax,lj];simp(disch:=omega)only[rs]
 ·have hnlt:¬(((2 ^ N-1+1:Nat):Int))<((2 ^ N:Nat):Int):=by omega
  have hn0:(0:Int)≤(N:Int):=by omega
  show jw (mIn n) (jch n) n.1 n.2.1 n.2.2.1 n.2.2.2.1 _ _ _ _ _ _=_;unfold jw;rw[hn,pz (decide_eq_true hn0),hsh,decide_eq_false hnlt];rfl
 ·rw[hz];rfl
theorem jf8:qac n=some ((o5 n N (2 ^ N)).map fun(k:Nat)=>(k:Int)):=by
 have h16:2 ^ N≤2 ^ 16:=Nat.pow_le_pow_right (by omega) hN;have hn0:(0:Int)≤(N:Int):=by omega
 have hsh:=j18 (show N<32 by omega);have e3:=jp9 n N hn hN hs hv;have ez:List.replicate (2 ^ N) false=q3r n N 1:=by
  rw[qfj];unfold q3r;refine cd fun k _=> ?_
  by_cases hk:k<1
  ·have:q3n n N k=false:=by
    refine Bool.eq_false_iff.2 fun hc=> ?_
    obtain⟨f,h1,h2,_⟩:=qqs.1 hc;have:=jdi h2;omega
   rw[this,Bool.and_false]
  ·rw[decide_eq_false hk];rfl
 unfold qac;rw[jp6 n N hn hN hs hv,ax,lj];rw[hn]at e3⊢;rw[pz (decide_eq_true hn0),hsh];clear hsh;have q0:(0:Int)≤((2 ^ N:Nat):Int):=Int.natCast_nonneg _;have q1:((2 ^ N:Nat):Int)≤65536:=Int.ofNat_le.2 h16;rw[q4m q0 (Int.le_refl _) (by omega) (by omega),Int.toNat_natCast,ez];show bnd (qca _ _ _ _ _ _ _) _=_;rw[e3];rfl
end
end Go.Proofs.YtclbndfjhjladaaGreat
