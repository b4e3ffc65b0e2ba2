/-
  Siphon: Minimal as the program gives it; the reference's bits and order.
-/
import Derived.Test.YtclbndfjhjladaaGreatZ5PSF
set_option linter.all false
namespace Go.Proofs.YtclbndfjhjladaaGreat
open Go.K Go.M
section
variable (n : bp) (N : Nat) (hn : n.1 = (N : Int)) (hN : N ≤ 16) (hs : Small n) (hv : ck n = true)
theorem jh0(N:Nat)(hN:N≤16)(s:Nat)(hs:s<2 ^ N)(v18:List Int)(v19 v20 a b c:Int)(ts:List ae)(o:Rw):
  qkf (s:Int) v18 v19 v20 (N:Int) a ts b c o (0,[])=some (.inl (ij N s)):=by
 have h16:2 ^ N≤2 ^ 16:=Nat.pow_le_pow_right (by omega) hN;refine cn (fun i:Nat=>((i:Int),ij i s)) N (bc (by omega)) _ (fun i hi=> ?_) ?_ _ rfl
 ·have e1:=jye s i (by omega) (by omega);have e2:=jlr i s;have hl:=q4k i s;have h0:(0:Int)≤(i:Int):=by omega
  cases hb:s.testBit i with
  |true=>
   rw[hb]at e1 e2;rw[e2];simp only[my,e1];simp(disch:=omega)only[rs];rw[ah];rfl
  |false=>
   rw[hb]at e1 e2;rw[e2];simp only[my,e1];simp(disch:=omega)only[rs];rw[ah];rfl
 ·simp(disch:=omega)only[my,rs]
include hn hN hs hv
noncomputable def fu(n:bp)(N:Nat):Rw:=(o5 n N (2 ^ N)).map (ij N)
omit hn hN hs hv in
theorem jta(n:bp)(N s:Nat):(o5 n N s).length≤s:=by
 have:=List.length_filter_le (qrr n N) (List.range s);rw[List.length_range]at this;exact this
omit hn hN hs hv in
theorem q5f(n:bp)(N:Nat):∀s,(o5 n N (s+1)).length≤s
 |0=>by
  rw[qpg];exact Nat.le_refl 0
 |s+1=>by
  have:=q5f n N s;rw[qpg];cases qrr n N (s+1)with
  |false=>exact Nat.le_succ_of_le this
  |true=>simp only[cond_true,List.length_append,List.length_cons,List.length_nil];omega
omit hn hs hv in
theorem jt5:ShR (fu n N):=by
 intro i;by_cases h:i<(fu n N).length
 ·have hm:=au (l:=fu n N) [] h;unfold fu at hm;obtain⟨k,_,hk⟩:=List.mem_map.1 hm;unfold fu;rw[←hk];have:=q4k N k;omega
 ·rw[List.getD_eq_getElem?_getD,List.getElem?_eq_none (by omega)];show(0:Nat)≤_;omega
theorem jmv(a:Int)(ts:List ae)(b c:Int):qkg ((o5 n N (2 ^ N)).map fun(k:Nat)=>(k:Int)) (((o5 n N (2 ^ N)).map fun(k:Nat)=>(k:Int)).length:Int) n.1 ts b c (0,[])=some (.inl (fu n N)):=by
 have h16:2 ^ N≤2 ^ 16:=Nat.pow_le_pow_right (by omega) hN;have hfl:=jta n N (2 ^ N);have hlen:((o5 n N (2 ^ N)).map fun(k:Nat)=>(k:Int)).length=(o5 n N (2 ^ N)).length:=List.length_map ..;have e:fu n N=((o5 n N (2 ^ N)).take (o5 n N (2 ^ N)).length).map (ij N):=by rw[List.take_length];rfl
 rw[e,hlen,hn];refine cn (fun i:Nat=>((i:Int),((o5 n N (2 ^ N)).take i).map (ij N))) (o5 n N (2 ^ N)).length (bc (by omega)) _ (fun i hi=> ?_) ?_ _ rfl
 ·have hg:=q53 (o5 n N (2 ^ N)) (fun(k:Nat)=>(k:Int)) 0 i hi;have hk:(o5 n N (2 ^ N)).getD i 0<2 ^ N:=by
   have hm:=au (l:=o5 n N (2 ^ N)) 0 hi;unfold o5 at hm;exact List.mem_range.1 (List.mem_filter.1 hm).1
  have e1:=jh0 N hN ((o5 n N (2 ^ N)).getD i 0) hk ((o5 n N (2 ^ N)).map fun(k:Nat)=>(k:Int)) ((o5 n N (2 ^ N)).length:Int) (i:Int) (N:Int) b c ts (((o5 n N (2 ^ N)).take i).map (ij N));have hl:(((o5 n N (2 ^ N)).take i).map (ij N)).length=i:=by rw[List.length_map,List.length_take];omega
  rw[d7 (o5 n N (2 ^ N)) i 0 hi,List.map_append];simp only[tl,Int.toNat_natCast,hg,e1,ax,lj,hl];simp(disch:=omega)only[rs];rw[ah];rfl
 ·simp(disch:=omega)only[tl,rs]
theorem jdx(h12:N≤12):qaa n=some (0,srt (fu n N)):=by
 have h16:2 ^ N≤2 ^ 12:=Nat.pow_le_pow_right (by omega) h12;have h1p:1≤2 ^ N:=Nat.one_le_two_pow;have hfl:=q5f n N (2 ^ N-1);rw[show 2 ^ N-1+1=2 ^ N by omega]at hfl;have hlen:(fu n N).length=(o5 n N (2 ^ N)).length:=List.length_map ..;have e1:=jf8 n N hn hN hs hv;have e2:=jmv n N hn hN hs hv 0 n.2.1 n.2.2.1 n.2.2.2.1;have e3:=jue (fu n N) (jt5 n N hN) (by omega);have e4:(srt (fu n N)).length=(fu n N).length:=(wo _).length_eq;unfold qaa;rw[qfr hs,hv];have hlt:¬(16:Int)<n.1:=by omega
 simp only[ax,e1,e2,lj,e3];rw[pz (decide_eq_true e4),decide_eq_false hlt];rfl
end
end Go.Proofs.YtclbndfjhjladaaGreat
set_option linter.all false
namespace Go.Proofs.YtclbndfjhjladaaGreat
open Go.K Go.M
theorem ja6{ts:List ae}{trap:Bool}{a b:List Int}(h:∀x,x∈a↔x∈b)(ha:xd ts trap a):xd ts trap b:=by
 rw[qs8]at ha⊢;rintro t ht ⟨p,h1,h2⟩;obtain⟨q,h3,h4⟩:=ha t ht ⟨p,h1,(h p).2 h2⟩;exact⟨q,h3,(h q).1 h4⟩
theorem jyk{n:bp}{N:Nat}{W:List Int}(hb:∀x∈W,(0:Int)≤x∧x<(N:Int))(hc:xd n.2.1 false W):clo n N (k7 W)=true:=by
 refine ja6 (fun x=> ?_) hc;constructor
 ·intro hx;have:=hb x hx;refine qft.2 ⟨x.toNat,by omega,?_,by omega⟩;rw[qgh fun x hx=>(hb x hx).1,f9,Int.toNat_of_nonneg this.1];exact hx
 ·intro hx;obtain⟨p,_,h2,rfl⟩:=qft.1 hx;rw[qgh fun x hx=>(hb x hx).1,f9]at h2;exact h2
theorem jp2{W:List Int}(hb:∀x∈W,(0:Int)≤x)(hne:W≠[]):1≤k7 W:=by
 cases W with
 |nil=>exact(hne rfl).elim
 |cons x W=>
  refine Nat.pos_of_ne_zero fun hz=> ?_
  have h1:(k7 (x::W)).testBit x.toNat=true:=by
   rw[qgh hb,f9,Int.toNat_of_nonneg (hb x List.mem_cons_self)];exact List.mem_cons_self
  rw[hz,Nat.zero_testBit]at h1;cases h1
theorem jsg{N k:Nat}(h1:1≤k)(hk:k<2 ^ N):ij N k≠[]:=by
 intro he;have:k=0:=by
  refine Nat.eq_of_testBit_eq fun p=> ?_
  rw[Nat.zero_testBit];cases h:k.testBit p with
  |false=>rfl
  |true=>
   by_cases hp:p<N
   ·have:(p:Int)∈ij N k:=qft.2 ⟨p,hp,h,rfl⟩;rw[he]at this;cases this
   ·rw[Nat.testBit_lt_two_pow (Nat.lt_of_lt_of_le hk (Nat.pow_le_pow_right (by omega) (by omega)))]at h;cases h
 omega
end Go.Proofs.YtclbndfjhjladaaGreat
