/-
  Siphon: sets of places as bits.
-/
import Derived.Test.YtclbndfjhjladaaGreatZ5PU4
set_option linter.all false
namespace Go.Proofs.YtclbndfjhjladaaGreat
open Go.K Go.M
theorem q71(n:Nat)(h:n<2 ^ 32):IntKind.wrap .u32 (n:Int)=(n:Int):=by
 simp[IntKind.wrap,IntKind.bits,IntKind.signed];omega
theorem jls(m:Nat):BitVec.ofInt 32 (m:Int)=BitVec.ofNat 32 m:=by
 apply BitVec.eq_of_toNat_eq;simp[BitVec.toNat_ofInt]
theorem j8u(a b:Nat)(ha:a<2 ^ 32)(hb:b<2 ^ 32):yi .or .u32 (a:Int) (b:Int)=((a|||b:Nat):Int):=by
 have hlt:a|||b<2 ^ 32:=Nat.or_lt_two_pow ha hb;unfold yi;simp only[];rw[show IntKind.u32.bits=32 from rfl,jls,jls,BitVec.toNat_or,BitVec.toNat_ofNat,BitVec.toNat_ofNat,Nat.mod_eq_of_lt ha,Nat.mod_eq_of_lt hb];exact q71 _ hlt
theorem jn8(a b:Nat)(ha:a<2 ^ 32)(hb:b<2 ^ 32):yi .and .u32 (a:Int) (b:Int)=((a&&&b:Nat):Int):=by
 have hlt:a&&&b<2 ^ 32:=Nat.lt_of_le_of_lt Nat.and_le_left ha;unfold yi;simp only[];rw[show IntKind.u32.bits=32 from rfl,jls,jls,BitVec.toNat_and,BitVec.toNat_ofNat,BitVec.toNat_ofNat,Nat.mod_eq_of_lt ha,Nat.mod_eq_of_lt hb];exact q71 _ hlt
theorem jra{n:Nat}(h:n<32):qos .u32 1 (n:Int)=((2 ^ n:Nat):Int):=by
 have hp:2 ^ n<2 ^ 32:=Nat.pow_lt_pow_right (by omega) h;unfold qos;rw[show min (Int.toNat (n:Int)) IntKind.u32.bits=n by simp[IntKind.bits];omega,show((1:Int)*2 ^ n)=((2 ^ n:Nat):Int) by simp];exact q71 _ hp
theorem j18{n:Nat}(h:n<32):qos .i64 1 (n:Int)=((2 ^ n:Nat):Int):=by
 have hp:2 ^ n<2 ^ 32:=Nat.pow_lt_pow_right (by omega) h;unfold qos;rw[show min (Int.toNat (n:Int)) IntKind.i64.bits=n by simp[IntKind.bits];omega,show((1:Int)*2 ^ n)=((2 ^ n:Nat):Int) by simp];generalize 2 ^ n=q at hp;exact q72 (by omega) (by omega)
def q81(k p:Nat):Nat:=(BitVec.ofNat 32 k&&& ~~~ BitVec.ofNat 32 (2 ^ p)).toNat
theorem j5k(k p:Nat):yi .andNot .u32 (k:Int) ((2 ^ p:Nat):Int)=((q81 k p:Nat):Int):=by
 unfold yi;simp only[];rw[show IntKind.u32.bits=32 from rfl,jls,jls];exact q71 _ (BitVec.isLt _)
theorem ja7(k p i:Nat)(hk:k<2 ^ 32):(q81 k p).testBit i=(k.testBit i&& !decide (p=i)):=by
 unfold q81;rw[BitVec.testBit_toNat];simp only[BitVec.getLsbD_and,BitVec.getLsbD_not,BitVec.getLsbD_ofNat,Nat.testBit_two_pow];by_cases h:i<32
 ·simp[h]
 ·have:k.testBit i=false:=Nat.testBit_lt_two_pow (Nat.lt_of_lt_of_le hk (Nat.pow_le_pow_right (by omega) (by omega)));simp[h,this]
theorem jye(s i:Nat)(hs:s<2 ^ 32)(hi:i<32):decide (yi .and .u32 (jrb .u32 (s:Int) (i:Int)) 1=1)=s.testBit i:=by
 have h:jrb .u32 (s:Int) (i:Int)=((s/2 ^ i:Nat):Int):=by
  unfold jrb;rw[show min (Int.toNat (i:Int)) IntKind.u32.bits=i by simp[IntKind.bits];omega];rw[show((2:Int) ^ i)=((2 ^ i:Nat):Int) by simp,Int.fdiv_eq_ediv_of_nonneg _ (Int.natCast_nonneg (2 ^ i))];rfl
 have hlt:s/2 ^ i<2 ^ 32:=Nat.lt_of_le_of_lt (Nat.div_le_self _ _) hs;have e:=jn8 (s/2 ^ i) 1 hlt (by omega);rw[h,show(1:Int)=((1:Nat):Int)from rfl,e,Nat.and_one_is_mod,Nat.testBit_eq_decide_div_mod_eq];exact decide_eq_decide.2 ⟨fun h=>by omega,fun h=>by omega⟩
def k7(l:List Int):Nat:=l.foldl (fun m x=>m|||2 ^ x.toNat) 0
theorem jmt(l:List Int):∀(m p:Nat),(∀x∈l,(0:Int)≤x)→(l.foldl (fun m x=>m|||2 ^ x.toNat) m).testBit p=(m.testBit p||dj l p):=by
 induction l with
 |nil=>intro m p _;simp[dj]
 |cons x l ih=>
  intro m p h;have hx:=h x List.mem_cons_self;rw[List.foldl_cons,ih _ p fun y hy=>h y (List.mem_cons_of_mem _ hy),Nat.testBit_or,Nat.testBit_two_pow,Bool.or_assoc];congr 1;show _=(decide ((p:Int)=x)||dj l p);congr 1;exact decide_eq_decide.2 ⟨fun h=>by omega,fun h=>by omega⟩
theorem qgh{l:List Int}(h:∀x∈l,(0:Int)≤x)(p:Nat):(k7 l).testBit p=dj l p:=by
 unfold k7;rw[jmt l 0 p h,Nat.zero_testBit,Bool.false_or]
theorem jcj{l:List Int}{N:Nat}(h:∀x∈l,(0:Int)≤x∧x<(N:Int)):k7 l<2 ^ N:=by
 refine Nat.lt_pow_two_of_testBit _ fun i hi=> ?_
 rw[qgh fun x hx=>(h x hx).1];refine qdl.2 fun hc=> ?_
 have:=(h _ hc).2;omega
theorem jfm{l:List Int}{N:Nat}(h:∀x∈l,(0:Int)≤x∧x<(N:Int))(hN:N≤16)(hl:l.length≤1000000):qab l=some ((k7 l:Nat):Int):=by
 have hL:qqt l (l.length:Int) (0,0)=some (.inl ((k7 l:Nat):Int)):=by
  have e:k7 l=k7 (l.take l.length):=by rw[List.take_length]
  rw[e];refine cn (fun i:Nat=>(((k7 (l.take i):Nat):Int),(i:Int))) l.length (bc (by omega)) _ (fun i hi=> ?_) ?_ _ rfl
  ·have hx:=h _ (au 0 hi);have hm:k7 (l.take i)<2 ^ N:=jcj fun x hx=>h x (List.mem_of_mem_take hx)
   have h16:2 ^ N≤2 ^ 16:=Nat.pow_le_pow_right (by omega) hN;have hp:2 ^ (l.getD i 0).toNat<2 ^ 32:=Nat.pow_lt_pow_right (by omega) (by omega);have e1:k7 (l.take (i+1))=k7 (l.take i)|||2 ^ (l.getD i 0).toNat:=by
    rw[d7 l i 0 hi];unfold k7;rw[List.foldl_append];rfl
   have e2:qos .u32 1 (l.getD i 0)=((2 ^ (l.getD i 0).toNat:Nat):Int):=by
    rw[←jra (show(l.getD i 0).toNat<32 by omega),Int.toNat_of_nonneg hx.1]
   have e3:=j8u (k7 (l.take i)) (2 ^ (l.getD i 0).toNat) (by omega) hp;simp only[xc,Int.toNat_natCast,e2,e3,e1];simp(disch:=omega)only[rs];rw[ah,pz (decide_eq_true hx.1)]
  ·simp(disch:=omega)only[xc,rs]
 unfold qab;rw[hL];rfl
def ij(N k:Nat):List Int:=((List.range N).filter fun p=>k.testBit p).map fun(p:Nat)=>(p:Int)
theorem qft{N k:Nat}{x:Int}:x∈ij N k↔∃p:Nat,p<N∧k.testBit p=true∧(p:Int)=x:=by
 unfold ij;rw[List.mem_map];constructor
 ·rintro⟨p,hp,rfl⟩;have:=List.mem_filter.1 hp;exact⟨p,List.mem_range.1 this.1,this.2,rfl⟩
 ·rintro⟨p,h1,h2,rfl⟩;exact⟨p,List.mem_filter.2 ⟨List.mem_range.2 h1,h2⟩,rfl⟩
theorem q4k(N k:Nat):(ij N k).length≤N:=by
 unfold ij;rw[List.length_map];exact Nat.le_trans (List.length_filter_le _ _) (Nat.le_of_eq List.length_range)
theorem jlr(N k:Nat):ij (N+1) k=bif k.testBit N then ij N k++[(N:Int)]else ij N k:=by
 unfold ij;rw[List.range_succ,List.filter_append,List.map_append];cases h:k.testBit N<;>simp[h]
theorem qt9{a s:Nat}:a&&&s=0↔∀p,¬(a.testBit p=true∧s.testBit p=true):=by
 constructor
 ·intro h p hp;have:=congrArg (fun x=>x.testBit p) h;simp only[Nat.testBit_and,hp.1,hp.2,Nat.zero_testBit]at this;cases this
 ·intro h;refine Nat.eq_of_testBit_eq fun p=> ?_
  rw[Nat.testBit_and,Nat.zero_testBit];cases h1:a.testBit p<;>cases h2:s.testBit p<;>simp;exact h p ⟨h1,h2⟩
theorem jn9{l:List Int}{N s:Nat}(h:∀x∈l,(0:Int)≤x∧x<(N:Int)):decide (k7 l&&&s=0)= !qnp l (ij N s):=by
 cases hm:qnp l (ij N s)with
 |true=>
  obtain⟨x,hx,hb⟩:=qfo.1 hm;obtain⟨p,h1,h2,rfl⟩:=qft.1 hb;refine decide_eq_false fun hc=>qt9.1 hc p ⟨?_,h2⟩
  rw[qgh fun x hx=>(h x hx).1];exact f9.2 hx
 |false=>
  refine decide_eq_true (qt9.2 fun p hp=> ?_);rw[qgh fun x hx=>(h x hx).1,f9]at hp;have hx:=h _ hp.1;have:qnp l (ij N s)=true:=qfo.2 ⟨_,hp.1,qft.2 ⟨p,by omega,hp.2,rfl⟩⟩;rw[hm]at this;cases this
def jnz(f k:Nat):Prop:=∀i,f.testBit i=true→k.testBit i=true
theorem jdi{f k:Nat}(h:jnz f k):f≤k:=by
 have:f&&&k=f:=by
  refine Nat.eq_of_testBit_eq fun i=> ?_
  rw[Nat.testBit_and];cases h1:f.testBit i with
  |false=>rfl
  |true=>rw[h i h1];rfl
 rw[←this];exact Nat.and_le_right
theorem ja8{k p:Nat}(hk:k<2 ^ 32):jnz (q81 k p) k:=by
 intro i h;rw[ja7 k p i hk,Bool.and_eq_true]at h;exact h.1
theorem jor{k p:Nat}(hk:k<2 ^ 32)(hp:k.testBit p=true):q81 k p<k:=by
 have hle:=jdi (ja8 (p:=p) hk);rcases Nat.lt_or_eq_of_le hle with h|h
 ·exact h
 ·have:=ja7 k p p hk;rw[h,hp,decide_eq_true rfl]at this;cases this
def clo(n:bp)(N k:Nat):Bool:=q3w n.2.1 false (ij N k)
def Sip(n:bp)(N k:Nat):Prop:=∃f,1≤f∧jnz f k∧clo n N f=true
noncomputable def q3n(n:bp)(N k:Nat):Bool:= @decide (Sip n N k) (Classical.propDecidable _)
theorem qqs{n:bp}{N k:Nat}:q3n n N k=true↔Sip n N k:=by
 unfold q3n;exact @decide_eq_true_iff _ (Classical.propDecidable _)
noncomputable def xq(n:bp)(N i k:Nat):Bool:=(List.range i).any fun p=>k.testBit p&&q3n n N (q81 k p)
theorem qq0(n:bp)(N i k:Nat):xq n N (i+1) k=(xq n N i k||(k.testBit i&&q3n n N (q81 k i))):=by
 unfold xq;rw[List.range_succ,List.any_append];simp
noncomputable def qrr(n:bp)(N k:Nat):Bool:=decide (1≤k)&&(!xq n N N k&&clo n N k)
theorem jub{n:bp}{N k:Nat}(hk:k<2 ^ N)(hN:N≤16)(h1:1≤k):q3n n N k=(xq n N N k||clo n N k):=by
 have h16:2 ^ N≤2 ^ 16:=Nat.pow_le_pow_right (by omega) hN;rw[Bool.eq_iff_iff,qqs,Bool.or_eq_true];constructor
 ·rintro⟨f,hf1,hf2,hf3⟩;by_cases he:f=k
  ·subst he;exact Or.inr hf3
  ·have:∃p,k.testBit p=true∧f.testBit p=false:=by
    refine Classical.byContradiction fun hc=>he ?_
    refine Nat.eq_of_testBit_eq fun p=> ?_
    cases h2:k.testBit p with
    |true=>
     cases h3:f.testBit p with
     |true=>rfl
     |false=>exact(hc ⟨p,h2,h3⟩).elim
    |false=>
     cases h3:f.testBit p with
     |false=>rfl
     |true=>rw[hf2 p h3]at h2;cases h2
   obtain⟨p,hp1,hp2⟩:=this;have hpN:p<N:=by
    refine Classical.byContradiction fun hc=> ?_
    rw[Nat.testBit_lt_two_pow (Nat.lt_of_lt_of_le hk (Nat.pow_le_pow_right (by omega) (by omega)))]at hp1;cases hp1
   refine Or.inl (List.any_eq_true.2 ⟨p,List.mem_range.2 hpN,?_⟩);rw[hp1,Bool.true_and,qqs];refine⟨f,hf1,fun i hi=> ?_,hf3⟩;rw[ja7 k p i (by omega),hf2 i hi,Bool.true_and,Bool.not_eq_true'];refine decide_eq_false fun he=> ?_
   subst he;rw[hp2]at hi;cases hi
 ·rintro(h|h)
  ·obtain⟨p,_,hp⟩:=List.any_eq_true.1 h;rw[Bool.and_eq_true,qqs]at hp;obtain⟨f,hf1,hf2,hf3⟩:=hp.2;exact⟨f,hf1,fun i hi=>ja8 (by omega) i (hf2 i hi),hf3⟩
  ·exact⟨k,h1,fun _ h=>h,h⟩
end Go.Proofs.YtclbndfjhjladaaGreat
