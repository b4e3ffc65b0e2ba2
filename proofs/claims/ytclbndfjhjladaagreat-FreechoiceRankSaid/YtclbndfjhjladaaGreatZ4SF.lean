/-
  Siphon: the minimal siphons as the program finds them.
-/
import Derived.Test.YtclbndfjhjladaaGreatZ4SE
set_option linter.all false
namespace Go.Proofs.YtclbndfjhjladaaGreat
open Go.K Go.M
theorem jcs{α:Type}(l:List α)(f:α→Int)(d:α)(i:Nat)(h:i<l.length):(l.map f).getD i 0=f (l.getD i d):=by
 simp[List.getD_eq_getElem?_getD,h]
theorem jzt(s i:Nat):decide (((s&&&2 ^ i:Nat):Int)=0)= !s.testBit i:=by
 have e:(((s&&&2 ^ i:Nat):Int)=0)↔s&&&2 ^ i=0:=by omega
 cases h:s.testBit i with
 |true=>
  refine decide_eq_false fun hc=>qyl.1 (e.1 hc) i ⟨h,?_⟩
  simp[Nat.testBit_two_pow]
 |false=>
  refine decide_eq_true (e.2 (qyl.2 fun p hp=> ?_));rw[Nat.testBit_two_pow]at hp;have:=of_decide_eq_true hp.2;subst this;rw[h]at hp;cases hp.1
theorem jg3{l:List Int}{N s:Nat}(h:∀x∈l,(0:Int)≤x∧x<(N:Int))(hs:s<2 ^ 32)(hN:N≤16):decide (yp .and .u32 ((kz l:Nat):Int) (s:Int)=0)= !yf l (bq N s):=by
 have hm:kz l<2 ^ N:=jsk h;have h16:2 ^ N≤2 ^ 16:=Nat.pow_le_pow_right (by omega) hN;rw[jwc _ _ (by omega) hs,←jwd h];exact decide_eq_decide.2 ⟨fun h=>by omega,fun h=>by omega⟩
section
variable (n : ca) (N : Nat) (hn : n.1 = (N : Int)) (hN : N ≤ 16) (hs : Small n) (hv : c6 n = true)
include hn hN hs hv
omit hN hs in
theorem jxi{t:af}(ht:t∈n.2.1):(∀x∈t.2.1,(0:Int)≤x∧x<(N:Int))∧∀x∈t.2.2.1,(0:Int)≤x∧x<(N:Int):=by
 have:=jrk hv ht;rw[←hn];exact⟨(q14.1 this.1).1,(q14.1 this.2).1⟩
abbrev mIn(n:ca):List Int:=n.2.1.map fun t=>((kz t.2.1:Nat):Int)
abbrev jka(n:ca):List Int:=n.2.1.map fun t=>((kz t.2.2.1:Nat):Int)
theorem jxv:qmi n.2.1 (n.2.1.length:Int) n.1 n.2.1 n.2.2.1 n.2.2.2.1 (0,[],[])=some (.inl (mIn n,jka n)):=by
 have hlen:=hs.trans;have e:(mIn n,jka n)=((n.2.1.take n.2.1.length).map fun t=>((kz t.2.1:Nat):Int),(n.2.1.take n.2.1.length).map fun t=>((kz t.2.2.1:Nat):Int)):=by rw[List.take_length]
 rw[e];refine a9 (fun i:Nat=>((i:Int),((n.2.1.take i).map fun t=>((kz t.2.1:Nat):Int)),(n.2.1.take i).map fun t=>((kz t.2.2.1:Nat):Int))) n.2.1.length (aw (by omega)) _ (fun i hi=> ?_) ?_ _ rfl
 ·have ht:=ao af.z hi;obtain⟨h1,h2⟩:=jxi n N hn hv ht;have e1:=jnq h1 hN (Nat.le_trans (hs.ins _ ht) (by omega));have e2:=jnq h2 hN (Nat.le_trans (hs.outs _ ht) (by omega));have l1:((n.2.1.take i).map fun t=>((kz t.2.1:Nat):Int)).length=i:=by rw[List.length_map,List.length_take];omega
  have l2:((n.2.1.take i).map fun t=>((kz t.2.2.1:Nat):Int)).length=i:=by rw[List.length_map,List.length_take];omega
  rw[ct n.2.1 i af.z hi,List.map_append,List.map_append];simp only[s5,Int.toNat_natCast,e1,e2,au,l1,l2];simp(disch:=omega)only[rs];rw[ag];rfl
 ·simp(disch:=omega)only[s5,rs]
noncomputable def qfm(n:ca)(N s i:Nat):List Bool:=bh (2 ^ N) fun k=>if k=s then my n N i s else decide (k<s)&&jai n N k
noncomputable def jam(n:ca)(N s:Nat):List Bool:=bh (2 ^ N) fun k=>decide (k<s)&&jai n N k
theorem jxw(s:Nat)(h1:1≤s)(hsN:s<2 ^ N)(a b c d:List Int):qmj a b (s:Int) (N:Int) n.1 n.2.1 n.2.2.1 n.2.2.2.1 c (0,jam n N s)=some (.inl (qfm n N s N)):=by
 have h16:2 ^ N≤2 ^ 16:=Nat.pow_le_pow_right (by omega) hN;refine a9 (fun i:Nat=>((i:Int),qfm n N s i)) N (aw (by omega)) _ (fun i hi=> ?_) ?_ _ ?_
 ·have hp:2 ^ i<2 ^ 32:=Nat.pow_lt_pow_right (by omega) (by omega);have e1:=jy1 (show i<32 by omega);have e2:=jwc s (2 ^ i) (by omega) hp;have e3:=jzt s i;have e4:=zcf s i;cases hb:s.testBit i with
  |false=>
   have e5:qfm n N s (i+1)=qfm n N s i:=by
    unfold qfm;rw[show my n N (i+1) s=my n N i s by rw[qt7,hb];simp]
   rw[e5];rw[hb]at e3;simp only[i3,e1,e2,e3];simp(disch:=omega)only[rs];rw[ag,pg (decide_eq_true (Int.natCast_nonneg i))]
  |true=>
   rw[hb]at e3;have hlt:=j5y (by omega) hb;have hlen:(qfm n N s i).length=2 ^ N:=bn _ _;have e6:(qfm n N s i).getD (jgy s i) false=jai n N (jgy s i):=by
    unfold qfm;rw[di (by omega),if_neg (by omega),decide_eq_true hlt,Bool.true_and]
   cases hq:jai n N (jgy s i)with
   |false=>
    have e5:qfm n N s (i+1)=qfm n N s i:=by
     unfold qfm;rw[show my n N (i+1) s=my n N i s by rw[qt7,hb,hq];simp]
    rw[e5];rw[hq]at e6;simp only[i3,e1,e2,e3,e4,Int.toNat_natCast,e6,hlen];simp(disch:=omega)only[rs];rw[ag,pg (decide_eq_true (Int.natCast_nonneg i))]
   |true=>
    have e5:qfm n N s (i+1)=(qfm n N s i).set s true:=by
     unfold qfm;rw[ml,show my n N (i+1) s=true by rw[qt7,hb,hq];simp];refine bp fun k _=> ?_
     by_cases hk:k=s
     ·rw[if_pos hk,if_pos hk]
     ·rw[if_neg hk,if_neg hk,if_neg hk]
    rw[e5];rw[hq]at e6;simp only[i3,e1,e2,e3,e4,Int.toNat_natCast,e6,hlen];simp(disch:=omega)only[rs];rw[ag,pg (decide_eq_true (Int.natCast_nonneg i))]
 ·simp(disch:=omega)only[i3,rs]
 ·unfold qfm jam;congr 1;refine bp fun k _=> ?_
  by_cases hk:k=s
  ·subst hk;rw[if_pos rfl,decide_eq_false (Nat.lt_irrefl k)];rfl
  ·rw[if_neg hk]
theorem jxx(s:Nat)(hsN:s<2 ^ N)(T:List Bool)(F:List Int):qmk (mIn n) (jka n) (s:Int) ((mIn n).length:Int) n.1 n.2.1 n.2.2.1 n.2.2.2.1 T F (true,0)=some (.inl (clo n N s)):=by
 have h16:2 ^ N≤2 ^ 16:=Nat.pow_le_pow_right (by omega) hN;have hlen:=hs.trans;have l1:(mIn n).length=n.2.1.length:=List.length_map ..;have l2:(jka n).length=n.2.1.length:=List.length_map ..;have e:clo n N s=(n.2.1.take n.2.1.length).all fun t=> !qpg false (bq N s) t:=by
  rw[List.take_length];unfold clo qnb;rw[List.not_any_eq_all_not]
 rw[e,l1];refine a9 (fun i:Nat=>((n.2.1.take i).all fun t=> !qpg false (bq N s) t,(i:Int))) n.2.1.length (aw (by omega)) _ (fun i hi=> ?_) ?_ _ rfl
 ·have ht:=ao af.z hi;obtain⟨h1,h2⟩:=jxi n N hn hv ht;have g1:(mIn n).getD i 0=_:=jcs n.2.1 (fun t=>((kz t.2.1:Nat):Int)) af.z i hi;have g2:(jka n).getD i 0=_:=jcs n.2.1 (fun t=>((kz t.2.2.1:Nat):Int)) af.z i hi;have m1:=jg3 (s:=s) h1 (by omega) hN;have m2:=jg3 (s:=s) h2 (by omega) hN;have e3:((n.2.1.take (i+1)).all fun t=> !qpg false (bq N s) t)=(((n.2.1.take i).all fun t=> !qpg false (bq N s) t)&& !(yf (n.2.1.getD i af.z).2.2.1 (bq N s)&& !yf (n.2.1.getD i af.z).2.1 (bq N s))):=by
   rw[ct n.2.1 i af.z hi,List.all_append];congr 1;show((_&&true):Bool)=_;rw[Bool.and_true];rfl
  rw[e3];simp only[s6,Int.toNat_natCast,g1,g2,m1,m2,l1,l2];simp(disch:=omega)only[rs];rw[ag];cases((n.2.1.take i).all fun t=> !qpg false (bq N s) t)<;>cases yf (n.2.1.getD i af.z).2.2.1 (bq N s)<;>cases yf (n.2.1.getD i af.z).2.1 (bq N s)<;>rfl
 ·simp(disch:=omega)only[s6,rs]
noncomputable def m7(n:ca)(N s:Nat):List Nat:=(List.range s).filter (qz3 n N)
omit hn hN hs hv in
theorem qg8(n:ca)(N s:Nat):m7 n N (s+1)=bif qz3 n N s then m7 n N s++[s]else m7 n N s:=by
 unfold m7;rw[List.range_succ,List.filter_append];cases h:qz3 n N s<;>simp[h]
theorem jxy:qcy (mIn n) (jka n) n.1 n.2.1 n.2.2.1 n.2.2.2.1 (1,jam n N 1,[])=some (.inl ((m7 n N (2 ^ N)).map fun(k:Nat)=>(k:Int))):=by
 have h16:2 ^ N≤2 ^ 16:=Nat.pow_le_pow_right (by omega) hN;have h0:1≤2 ^ N:=Nat.one_le_two_pow;have hz:m7 n N 1=[]:=by
  rw[qg8];rfl
 have eN:(2 ^ N-1)+1=2 ^ N:=by omega
 have e:(m7 n N (2 ^ N)).map (fun(k:Nat)=>(k:Int))=(m7 n N ((2 ^ N-1)+1)).map fun(k:Nat)=>(k:Int):=by rw[eN]
 have hsh:=jy1 (show N<32 by omega);rw[e];refine a9 (fun i:Nat=>(((i+1:Nat):Int),jam n N (i+1),(m7 n N (i+1)).map fun(k:Nat)=>(k:Int))) (2 ^ N-1) (aw (by omega)) _ (fun i hi=> ?_) ?_ _ ?_
 ·generalize hsi:i+1=s;have hsN:s<2 ^ N:=by omega
  have h1:1≤s:=by omega
  have e1:=jxw n N hn hN hs hv s h1 hsN (mIn n) (jka n) ((m7 n N s).map fun(k:Nat)=>(k:Int)) [];have hlen:(qfm n N s N).length=2 ^ N:=bn _ _;have hg:(qfm n N s N).getD s false=my n N N s:=by
   unfold qfm;rw[di hsN,if_pos rfl]
  have hrec:=j1v (n:=n) hsN hN h1;have hw:IntKind.wrap .u32 ((s:Int)+1)=((s+1:Nat):Int):=by
   rw[ag];exact jfo _ (by omega)
  have hfl:(m7 n N s).length≤s:=by
   have:=List.length_filter_le (qz3 n N) (List.range s);rw[List.length_range]at this;exact this
  have hfl' :((m7 n N s).map fun(k:Nat)=>(k:Int)).length≤s:=by rw[List.length_map];exact hfl
  have hT:∀b,jai n N s=b→jam n N (s+1)=bh (2 ^ N) fun k=>if k=s then b else decide (k<s)&&jai n N k:=by
   intro b hb;unfold jam;refine bp fun k _=> ?_
   by_cases hk:k=s
   ·rw[if_pos hk,hk,hb,decide_eq_true (by omega),Bool.true_and]
   ·rw[if_neg hk];congr 1;exact decide_eq_decide.2 ⟨fun h=>by omega,fun h=>by omega⟩
  have hlt:(s:Int)<((2 ^ N:Nat):Int):=by omega
  have hn0:(0:Int)≤(N:Int):=by omega
  show i4 (mIn n) (jka n) n.1 n.2.1 n.2.2.1 n.2.2.2.1 (s:Int) (jam n N s) ((m7 n N s).map fun(k:Nat)=>(k:Int)) _ _ _=_;unfold i4;rw[hn]at e1⊢;rw[pg (decide_eq_true hn0),hsh,decide_eq_true hlt,cond_true,e1,au,mo];cases hq:my n N N s with
  |true=>
   rw[hq]at hg hrec;have e5:jam n N (s+1)=qfm n N s N:=by
    rw[hT true hrec];unfold qfm;rw[hq]
   have e6:m7 n N (s+1)=m7 n N s:=by
    rw[qg8,show qz3 n N s=false by unfold qz3;rw[hq];simp];rfl
   rw[e5,e6];simp only[Int.toNat_natCast,hg,hlen,hw];simp(disch:=omega)only[rs]
  |false=>
   rw[hq]at hg hrec;rw[Bool.false_or]at hrec;have e2:=jxx n N hn hN hs hv s hsN (qfm n N s N) ((m7 n N s).map fun(k:Nat)=>(k:Int));rw[hn]at e2;have hmin:qz3 n N s=clo n N s:=by
    unfold qz3;rw[hq,decide_eq_true h1];rfl
   have e6:=qg8 n N s;rw[hmin]at e6;cases hc:clo n N s with
   |true=>
    rw[hc]at hrec e2 e6;have e5:jam n N (s+1)=(qfm n N s N).set s true:=by
     rw[hT true hrec];unfold qfm;rw[ml];refine bp fun k _=> ?_
     by_cases hk:k=s
     ·rw[if_pos hk,if_pos hk]
     ·rw[if_neg hk,if_neg hk,if_neg hk]
    rw[e5,e6];simp only[Int.toNat_natCast,hg,hlen,hw,e2,au,mo];simp(disch:=omega)only[rs];simp
   |false=>
    rw[hc]at hrec e2 e6;have e5:jam n N (s+1)=qfm n N s N:=by
     rw[hT false hrec];unfold qfm;rw[hq]
    rw[e5,e6];simp only[Int.toNat_natCast,hg,hlen,hw,e2,au,mo];simp(disch:=omega)only[rs]
 ·have hnlt:¬(((2 ^ N-1+1:Nat):Int))<((2 ^ N:Nat):Int):=by omega
  have hn0:(0:Int)≤(N:Int):=by omega
  show i4 (mIn n) (jka n) n.1 n.2.1 n.2.2.1 n.2.2.2.1 _ _ _ _ _ _=_;unfold i4;rw[hn,pg (decide_eq_true hn0),hsh,decide_eq_false hnlt];rfl
 ·rw[hz];rfl
theorem jow:qat n=some ((m7 n N (2 ^ N)).map fun(k:Nat)=>(k:Int)):=by
 have h16:2 ^ N≤2 ^ 16:=Nat.pow_le_pow_right (by omega) hN;have hn0:(0:Int)≤(N:Int):=by omega
 have hsh:=j9g (show N<32 by omega);have e3:=jxy n N hn hN hs hv;have ez:List.replicate (2 ^ N) false=jam n N 1:=by
  rw[qa9];unfold jam;refine bp fun k _=> ?_
  by_cases hk:k<1
  ·have:jai n N k=false:=by
    refine Bool.eq_false_iff.2 fun hc=> ?_
    obtain⟨f,h1,h2,_⟩:=qme.1 hc;have:=ja1 h2;omega
   rw[this,Bool.and_false]
  ·rw[decide_eq_false hk];rfl
 unfold qat;rw[jxv n N hn hN hs hv,au,mo];rw[hn]at e3⊢;rw[pg (decide_eq_true hn0),hsh];clear hsh;have q0:(0:Int)≤((2 ^ N:Nat):Int):=Int.natCast_nonneg _;have q1:((2 ^ N:Nat):Int)≤65536:=Int.ofNat_le.2 h16;rw[jwo q0 (Int.le_refl _) (by omega) (by omega),Int.toNat_natCast,ez];show bnd (qcy _ _ _ _ _ _ _) _=_;rw[e3];rfl
end
end Go.Proofs.YtclbndfjhjladaaGreat
