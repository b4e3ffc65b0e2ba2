/-
  Siphon: the minimal siphons as the program finds them.
-/
import Derived.Test.YtclbndfjhjladaaGreatZ6W1
set_option linter.all false
namespace Go.Proofs.YtclbndfjhjladaaGreat
open Go.K Go.M
theorem jkd{α:Type}(l:List α)(f:α→Int)(d:α)(i:Nat)(h:i<l.length):(l.map f).getD i 0=f (l.getD i d):=by
 simp[List.getD_eq_getElem?_getD,h]
theorem j06(s i:Nat):decide (((s&&&2 ^ i:Nat):Int)=0)= !s.testBit i:=by
 have e:(((s&&&2 ^ i:Nat):Int)=0)↔s&&&2 ^ i=0:=by omega
 cases h:s.testBit i with
 |true=>
  refine decide_eq_false fun hc=>q7w.1 (e.1 hc) i ⟨h,?_⟩
  simp[Nat.testBit_two_pow]
 |false=>
  refine decide_eq_true (e.2 (q7w.2 fun p hp=> ?_));rw[Nat.testBit_two_pow]at hp;have:=of_decide_eq_true hp.2;subst this;rw[h]at hp;cases hp.1
theorem jnk{l:List Int}{N s:Nat}(h:∀x∈l,(0:Int)≤x∧x<(N:Int))(hs:s<2 ^ 32)(hN:N≤16):decide (fg .and .u32 ((qq l:Nat):Int) (s:Int)=0)= !tk l (cu N s):=by
 have hm:qq l<2 ^ N:=jv1 h;have h16:2 ^ N≤2 ^ 16:=Nat.pow_le_pow_right (by omega) hN;rw[jys _ _ (by omega) hs,←jyt h];exact decide_eq_decide.2 ⟨fun h=>by omega,fun h=>by omega⟩
section
variable (n : ff) (N : Nat) (hn : n.1 = (N : Int)) (hN : N ≤ 16) (hs : Small n) (hv : zw n = true)
include hn hN hs hv
omit hN hs in
theorem jzk{t:ab}(ht:t∈n.2.1):(∀x∈t.2.1,(0:Int)≤x∧x<(N:Int))∧∀x∈t.2.2.1,(0:Int)≤x∧x<(N:Int):=by
 have:=jl7 hv ht;rw[←hn];exact⟨(jlt.1 this.1).1,(jlt.1 this.2).1⟩
abbrev mIn(n:ff):List Int:=n.2.1.map fun t=>((qq t.2.1:Nat):Int)
abbrev jps(n:ff):List Int:=n.2.1.map fun t=>((qq t.2.2.1:Nat):Int)
theorem jzz:qwl n.2.1 (n.2.1.length:Int) n.1 n.2.1 n.2.2.1 n.2.2.2.1 (0,[],[])=some (.inl (mIn n,jps n)):=by
 have hlen:=hs.trans;have e:(mIn n,jps n)=((n.2.1.take n.2.1.length).map fun t=>((qq t.2.1:Nat):Int),(n.2.1.take n.2.1.length).map fun t=>((qq t.2.2.1:Nat):Int)):=by rw[List.take_length]
 rw[e];refine qa4 (fun i:Nat=>((i:Int),((n.2.1.take i).map fun t=>((qq t.2.1:Nat):Int)),(n.2.1.take i).map fun t=>((qq t.2.2.1:Nat):Int))) n.2.1.length (ic (by omega)) _ (fun i hi=> ?_) ?_ _ rfl
 ·have ht:=cr ab.z hi;obtain⟨h1,h2⟩:=jzk n N hn hv ht;have e1:=jsa h1 hN (Nat.le_trans (hs.ins _ ht) (by omega));have e2:=jsa h2 hN (Nat.le_trans (hs.outs _ ht) (by omega));have l1:((n.2.1.take i).map fun t=>((qq t.2.1:Nat):Int)).length=i:=by rw[List.length_map,List.length_take];omega
  have l2:((n.2.1.take i).map fun t=>((qq t.2.2.1:Nat):Int)).length=i:=by rw[List.length_map,List.length_take];omega
  rw[f5 n.2.1 i ab.z hi,List.map_append,List.map_append];simp only[qa8,Int.toNat_natCast,e1,e2,ag,l1,l2];simp(disch:=omega)only[ba,aj,ai,ar,ax,bc,a8,am,a7,al,az,ak,a9,ao,aq,af,ae,ag,au,ay,Int.toNat_natCast,decide_true];rw[bq];rfl
 ·simp(disch:=omega)only[qa8,ba,aj,ai,ar,ax,bc,a8,am,a7,al,az,ak,a9,ao,aq,af,ae,ag,au,ay,Int.toNat_natCast,decide_true]
noncomputable def qp4(n:ff)(N s i:Nat):List Bool:=eb (2 ^ N) fun k=>if k=s then tj n N i s else decide (k<s)&&jh3 n N k
noncomputable def jib(n:ff)(N s:Nat):List Bool:=eb (2 ^ N) fun k=>decide (k<s)&&jh3 n N k
theorem jz0(s:Nat)(h1:1≤s)(hsN:s<2 ^ N)(a b c d:List Int):qwm a b (s:Int) (N:Int) n.1 n.2.1 n.2.2.1 n.2.2.2.1 c (0,jib n N s)=some (.inl (qp4 n N s N)):=by
 have h16:2 ^ N≤2 ^ 16:=Nat.pow_le_pow_right (by omega) hN;refine qa4 (fun i:Nat=>((i:Int),qp4 n N s i)) N (ic (by omega)) _ (fun i hi=> ?_) ?_ _ ?_
 ·have hp:2 ^ i<2 ^ 32:=Nat.pow_lt_pow_right (by omega) (by omega);have e1:=j0p (show i<32 by omega);have e2:=jys s (2 ^ i) (by omega) hp;have e3:=j06 s i;have e4:=zb9 s i;cases hb:s.testBit i with
  |false=>
   have e5:qp4 n N s (i+1)=qp4 n N s i:=by
    unfold qp4;rw[show tj n N (i+1) s=tj n N i s by rw[q4a,hb];simp]
   rw[e5];rw[hb]at e3;simp only[nz,e1,e2,e3];simp(disch:=omega)only[ba,aj,ai,ar,ax,bc,a8,am,a7,al,az,ak,a9,ao,aq,af,ae,ag,au,ay,Int.toNat_natCast,decide_true];rw[bq,m4 (decide_eq_true (Int.natCast_nonneg i))]
  |true=>
   rw[hb]at e3;have hlt:=j52 (by omega) hb;have hlen:(qp4 n N s i).length=2 ^ N:=jwp _ _;have e6:(qp4 n N s i).getD (clr s i) false=jh3 n N (clr s i):=by
    unfold qp4;rw[js4 (by omega),if_neg (by omega),decide_eq_true hlt,Bool.true_and]
   cases hq:jh3 n N (clr s i)with
   |false=>
    have e5:qp4 n N s (i+1)=qp4 n N s i:=by
     unfold qp4;rw[show tj n N (i+1) s=tj n N i s by rw[q4a,hb,hq];simp]
    rw[e5];rw[hq]at e6;simp only[nz,e1,e2,e3,e4,Int.toNat_natCast,e6,hlen];simp(disch:=omega)only[ba,aj,ai,ar,ax,bc,a8,am,a7,al,az,ak,a9,ao,aq,af,ae,ag,au,ay,Int.toNat_natCast,decide_true];rw[bq,m4 (decide_eq_true (Int.natCast_nonneg i))]
   |true=>
    have e5:qp4 n N s (i+1)=(qp4 n N s i).set s true:=by
     unfold qp4;rw[jwq,show tj n N (i+1) s=true by rw[q4a,hb,hq];simp];refine qw5 fun k _=> ?_
     by_cases hk:k=s
     ·rw[if_pos hk,if_pos hk]
     ·rw[if_neg hk,if_neg hk,if_neg hk]
    rw[e5];rw[hq]at e6;simp only[nz,e1,e2,e3,e4,Int.toNat_natCast,e6,hlen];simp(disch:=omega)only[ba,aj,ai,ar,ax,bc,a8,am,a7,al,az,ak,a9,ao,aq,af,ae,ag,au,ay,Int.toNat_natCast,decide_true];rw[bq,m4 (decide_eq_true (Int.natCast_nonneg i))]
 ·simp(disch:=omega)only[nz,ba,aj,ai,ar,ax,bc,a8,am,a7,al,az,ak,a9,ao,aq,af,ae,ag,au,ay,Int.toNat_natCast,decide_true]
 ·unfold qp4 jib;congr 1;refine qw5 fun k _=> ?_
  by_cases hk:k=s
  ·subst hk;rw[if_pos rfl,decide_eq_false (Nat.lt_irrefl k)];rfl
  ·rw[if_neg hk]
theorem jz1(s:Nat)(hsN:s<2 ^ N)(T:List Bool)(F:List Int):qwn (mIn n) (jps n) (s:Int) ((mIn n).length:Int) n.1 n.2.1 n.2.2.1 n.2.2.2.1 T F (true,0)=some (.inl (clo n N s)):=by
 have h16:2 ^ N≤2 ^ 16:=Nat.pow_le_pow_right (by omega) hN;have hlen:=hs.trans;have l1:(mIn n).length=n.2.1.length:=List.length_map ..;have l2:(jps n).length=n.2.1.length:=List.length_map ..;have e:clo n N s=(n.2.1.take n.2.1.length).all fun t=> !qmj false (cu N s) t:=by
  rw[List.take_length];unfold clo qax;rw[List.not_any_eq_all_not]
 rw[e,l1];refine qa4 (fun i:Nat=>((n.2.1.take i).all fun t=> !qmj false (cu N s) t,(i:Int))) n.2.1.length (ic (by omega)) _ (fun i hi=> ?_) ?_ _ rfl
 ·have ht:=cr ab.z hi;obtain⟨h1,h2⟩:=jzk n N hn hv ht;have g1:(mIn n).getD i 0=_:=jkd n.2.1 (fun t=>((qq t.2.1:Nat):Int)) ab.z i hi;have g2:(jps n).getD i 0=_:=jkd n.2.1 (fun t=>((qq t.2.2.1:Nat):Int)) ab.z i hi;have m1:=jnk (s:=s) h1 (by omega) hN;have m2:=jnk (s:=s) h2 (by omega) hN;have e3:((n.2.1.take (i+1)).all fun t=> !qmj false (cu N s) t)=(((n.2.1.take i).all fun t=> !qmj false (cu N s) t)&& !(tk (n.2.1.getD i ab.z).2.2.1 (cu N s)&& !tk (n.2.1.getD i ab.z).2.1 (cu N s))):=by
   rw[f5 n.2.1 i ab.z hi,List.all_append];congr 1;show((_&&true):Bool)=_;rw[Bool.and_true];rfl
  rw[e3];simp only[qa9,Int.toNat_natCast,g1,g2,m1,m2,l1,l2];simp(disch:=omega)only[ba,aj,ai,ar,ax,bc,a8,am,a7,al,az,ak,a9,ao,aq,af,ae,ag,au,ay,Int.toNat_natCast,decide_true];rw[bq];cases((n.2.1.take i).all fun t=> !qmj false (cu N s) t)<;>cases tk (n.2.1.getD i ab.z).2.2.1 (cu N s)<;>cases tk (n.2.1.getD i ab.z).2.1 (cu N s)<;>rfl
 ·simp(disch:=omega)only[qa9,ba,aj,ai,ar,ax,bc,a8,am,a7,al,az,ak,a9,ao,aq,af,ae,ag,au,ay,Int.toNat_natCast,decide_true]
noncomputable def ud(n:ff)(N s:Nat):List Nat:=(List.range s).filter (q9c n N)
omit hn hN hs hv in
theorem qrd(n:ff)(N s:Nat):ud n N (s+1)=bif q9c n N s then ud n N s++[s]else ud n N s:=by
 unfold ud;rw[List.range_succ,List.filter_append];cases h:q9c n N s<;>simp[h]
theorem jz2:qm6 (mIn n) (jps n) n.1 n.2.1 n.2.2.1 n.2.2.2.1 (1,jib n N 1,[])=some (.inl ((ud n N (2 ^ N)).map fun(k:Nat)=>(k:Int))):=by
 have h16:2 ^ N≤2 ^ 16:=Nat.pow_le_pow_right (by omega) hN;have h0:1≤2 ^ N:=Nat.one_le_two_pow;have hz:ud n N 1=[]:=by
  rw[qrd];rfl
 have eN:(2 ^ N-1)+1=2 ^ N:=by omega
 have e:(ud n N (2 ^ N)).map (fun(k:Nat)=>(k:Int))=(ud n N ((2 ^ N-1)+1)).map fun(k:Nat)=>(k:Int):=by rw[eN]
 have hsh:=j0p (show N<32 by omega);rw[e];refine qa4 (fun i:Nat=>(((i+1:Nat):Int),jib n N (i+1),(ud n N (i+1)).map fun(k:Nat)=>(k:Int))) (2 ^ N-1) (ic (by omega)) _ (fun i hi=> ?_) ?_ _ ?_
 ·generalize hsi:i+1=s;have hsN:s<2 ^ N:=by omega
  have h1:1≤s:=by omega
  have e1:=jz0 n N hn hN hs hv s h1 hsN (mIn n) (jps n) ((ud n N s).map fun(k:Nat)=>(k:Int)) [];have hlen:(qp4 n N s N).length=2 ^ N:=jwp _ _;have hg:(qp4 n N s N).getD s false=tj n N N s:=by
   unfold qp4;rw[js4 hsN,if_pos rfl]
  have hrec:=j2i (n:=n) hsN hN h1;have hw:IntKind.wrap .u32 ((s:Int)+1)=((s+1:Nat):Int):=by
   rw[bq];exact jl8 _ (by omega)
  have hfl:(ud n N s).length≤s:=by
   have:=List.length_filter_le (q9c n N) (List.range s);rw[List.length_range]at this;exact this
  have hfl' :((ud n N s).map fun(k:Nat)=>(k:Int)).length≤s:=by rw[List.length_map];exact hfl
  have hT:∀b,jh3 n N s=b→jib n N (s+1)=eb (2 ^ N) fun k=>if k=s then b else decide (k<s)&&jh3 n N k:=by
   intro b hb;unfold jib;refine qw5 fun k _=> ?_
   by_cases hk:k=s
   ·rw[if_pos hk,hk,hb,decide_eq_true (by omega),Bool.true_and]
   ·rw[if_neg hk];congr 1;exact decide_eq_decide.2 ⟨fun h=>by omega,fun h=>by omega⟩
  have hlt:(s:Int)<((2 ^ N:Nat):Int):=by omega
  have hn0:(0:Int)≤(N:Int):=by omega
  show n4 (mIn n) (jps n) n.1 n.2.1 n.2.2.1 n.2.2.2.1 (s:Int) (jib n N s) ((ud n N s).map fun(k:Nat)=>(k:Int)) _ _ _=_;unfold n4;rw[hn]at e1⊢;rw[m4 (decide_eq_true hn0),hsh,decide_eq_true hlt,cond_true,e1,ag,au];cases hq:tj n N N s with
  |true=>
   rw[hq]at hg hrec;have e5:jib n N (s+1)=qp4 n N s N:=by
    rw[hT true hrec];unfold qp4;rw[hq]
   have e6:ud n N (s+1)=ud n N s:=by
    rw[qrd,show q9c n N s=false by unfold q9c;rw[hq];simp];rfl
   rw[e5,e6];simp only[Int.toNat_natCast,hg,hlen,hw];simp(disch:=omega)only[ba,aj,ai,ar,ax,bc,a8,am,a7,al,az,ak,a9,ao,aq,af,ae,ag,au,ay,Int.toNat_natCast,decide_true]
  |false=>
   rw[hq]at hg hrec;rw[Bool.false_or]at hrec;have e2:=jz1 n N hn hN hs hv s hsN (qp4 n N s N) ((ud n N s).map fun(k:Nat)=>(k:Int));rw[hn]at e2;have hmin:q9c n N s=clo n N s:=by
    unfold q9c;rw[hq,decide_eq_true h1];rfl
   have e6:=qrd n N s;rw[hmin]at e6;cases hc:clo n N s with
   |true=>
    rw[hc]at hrec e2 e6;have e5:jib n N (s+1)=(qp4 n N s N).set s true:=by
     rw[hT true hrec];unfold qp4;rw[jwq];refine qw5 fun k _=> ?_
     by_cases hk:k=s
     ·rw[if_pos hk,if_pos hk]
     ·rw[if_neg hk,if_neg hk,if_neg hk]
    rw[e5,e6];simp only[Int.toNat_natCast,hg,hlen,hw,e2,ag,au];simp(disch:=omega)only[ba,aj,ai,ar,ax,bc,a8,am,a7,al,az,ak,a9,ao,aq,af,ae,ag,au,ay,Int.toNat_natCast,decide_true];simp
   |false=>
    rw[hc]at hrec e2 e6;have e5:jib n N (s+1)=qp4 n N s N:=by
     rw[hT false hrec];unfold qp4;rw[hq]
    rw[e5,e6];simp only[Int.toNat_natCast,hg,hlen,hw,e2,ag,au];simp(disch:=omega)only[ba,aj,ai,ar,ax,bc,a8,am,a7,al,az,ak,a9,ao,aq,af,ae,ag,au,ay,Int.toNat_natCast,decide_true]
 ·have hnlt:¬(((2 ^ N-1+1:Nat):Int))<((2 ^ N:Nat):Int):=by omega
  have hn0:(0:Int)≤(N:Int):=by omega
  show n4 (mIn n) (jps n) n.1 n.2.1 n.2.2.1 n.2.2.2.1 _ _ _ _ _ _=_;unfold n4;rw[hn,m4 (decide_eq_true hn0),hsh,decide_eq_false hnlt];rfl
 ·rw[hz];rfl
theorem jud:qjc n=some ((ud n N (2 ^ N)).map fun(k:Nat)=>(k:Int)):=by
 have h16:2 ^ N≤2 ^ 16:=Nat.pow_le_pow_right (by omega) hN;have hn0:(0:Int)≤(N:Int):=by omega
 have hsh:=j9d (show N<32 by omega);have e3:=jz2 n N hn hN hs hv;have ez:List.replicate (2 ^ N) false=jib n N 1:=by
  rw[j2n];unfold jib;refine qw5 fun k _=> ?_
  by_cases hk:k<1
  ·have:jh3 n N k=false:=by
    refine Bool.eq_false_iff.2 fun hc=> ?_
    obtain⟨f,h1,h2,_⟩:=qwa.1 hc;have:=jin h2;omega
   rw[this,Bool.and_false]
  ·rw[decide_eq_false hk];rfl
 unfold qjc;rw[jzz n N hn hN hs hv,ag,au];rw[hn]at e3⊢;rw[m4 (decide_eq_true hn0),hsh];clear hsh;have q0:(0:Int)≤((2 ^ N:Nat):Int):=Int.natCast_nonneg _;have q1:((2 ^ N:Nat):Int)≤65536:=Int.ofNat_le.2 h16;rw[ax q0 (Int.le_refl _) (by omega) (by omega),Int.toNat_natCast,ez];show bnd (qm6 _ _ _ _ _ _ _) _=_;rw[e3];rfl
end
end Go.Proofs.YtclbndfjhjladaaGreat
