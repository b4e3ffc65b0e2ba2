/-
  Flow: the program's elimination, step by step.
-/
import Derived.Test.YtclbndfjhjladaaGreatZ4F2
import Derived.Test.YtclbndfjhjladaaGreatZ4X5
set_option linter.all false
namespace Go.Proofs.YtclbndfjhjladaaGreat
open Go.K Go.M
theorem jhm{E Rt:Type}{step:Int×Int→Option (LR (Int×Int) E Rt)}(f:Int→E)(h:∀a b:Nat,step ((a:Int),(b:Int))=some (if b=0 then .done (f (a:Int))else .next ((b:Int),Int.tmod (a:Int) (b:Int)))):∀(n a b m:Nat),b<n→n≤m→q3n step m ((a:Int),(b:Int))=some (.inl (f (Nat.gcd a b:Int))):=by
 intro n
 induction n with
 |zero=>intro a b m hb;omega
 |succ n ih=>
  intro a b m hb hm;obtain⟨m,rfl⟩:∃q,m=q+1:=⟨m-1,by omega⟩;rw[nq,h,au];by_cases h0:b=0
  ·rw[if_pos h0];subst h0;rw[Nat.gcd_zero_right];rfl
  ·rw[if_neg h0];have hlt:a % b<b:=Nat.mod_lt _ (by omega);have e:Int.tmod (a:Int) (b:Int)=((a % b:Nat):Int):=by rw[Int.tmod_eq_emod_of_nonneg (by omega)];exact(Int.natCast_emod a b).symm
   have e2:Nat.gcd a b=Nat.gcd b (a % b):=by rw[Nat.gcd_comm,Nat.gcd_rec,Nat.gcd_comm]
   rw[e2];simp only[e];exact ih b (a % b) m (by omega) (by omega)
theorem jnb(a b:Nat)(hb:b≤9223372036854775807)(l:List Int)(x y:Int):qw2 l x y ((a:Int),(b:Int))=some (.inl (Nat.gcd a b:Int)):=
 jhm (step:=fun s:Int×Int=>qd2 (R:=LR (Int×Int) Int Int) l x y s.1 s.2 (fun a' =>some (.next a')) (fun e=>some (.done e)) (fun r=>some (.ret r))) id (fun a b=>by
  by_cases h:b=0
  ·subst h;simp(disch:=omega)only[qd2,rs];rfl
  ·have h' :(b:Int)≠0:=by omega
   simp(disch:=omega)only[qd2,qq6,rs];rw[if_neg h]) (b+1) a b many (by omega) (by unfold many;omega)
theorem jxa(l:List Int)(hl:l.length≤1000000)(hb:∀i,-4611686018427387904≤l.getD i 0∧l.getD i 0≤4611686018427387904):qrh l=some (zn l:Int):=by
 have hL:jbr l (l.length:Int) (0,0)=some (.inl (zn l:Int)):=by
  unfold zn;refine a9 (fun i:Nat=>((gN (fn l) i:Int),(i:Int))) l.length (aw (by omega)) _ (fun i hi=> ?_) ?_ _ rfl
  ·have hbi:=hb i;have e0:gN (fn l) (i+1)=Nat.gcd (gN (fn l) i) (l.getD i 0).natAbs:=rfl;by_cases hn:l.getD i 0<0
   ·have e1:(0-l.getD i 0:Int)=((l.getD i 0).natAbs:Int):=by omega
    have h2:=jnb (gN (fn l) i) (l.getD i 0).natAbs (by omega) l (l.length:Int) (i:Int);rw[←e1]at h2;simp(disch:=omega)only[qd3,h2,rs];rw[ag,e0]
   ·have e1:(l.getD i 0:Int)=((l.getD i 0).natAbs:Int):=by omega
    have h2:=jnb (gN (fn l) i) (l.getD i 0).natAbs (by omega) l (l.length:Int) (i:Int);rw[←e1]at h2;simp(disch:=omega)only[qd3,h2,rs];rw[ag,e0]
  ·simp(disch:=omega)only[qd3,rs]
 unfold qrh;rw[hL];rfl
theorem jz4(m:Nat):BitVec.ofInt 64 (m:Int)=BitVec.ofNat 64 m:=by
 apply BitVec.eq_of_toNat_eq;simp[BitVec.toNat_ofInt]
theorem zfs(a b:Nat)(ha:a<2 ^ 63)(hb:b<2 ^ 63):yp .or .u64 (a:Int) (b:Int)=((a|||b:Nat):Int):=by
 have hlt:a|||b<2 ^ 63:=Nat.or_lt_two_pow ha hb;unfold yp;simp only[];rw[show IntKind.u64.bits=64 from rfl,jz4,jz4,BitVec.toNat_or,BitVec.toNat_ofNat,BitVec.toNat_ofNat,Nat.mod_eq_of_lt (by omega),Nat.mod_eq_of_lt (by omega)];exact jzg _ (by omega)
theorem j05(l:List Int)(hl:l.length≤60):ni l=some ((msk (fn l) l.length:Nat):Int):=by
 have hL:q57 l (l.length:Int) (0,0)=some (.inl ((msk (fn l) l.length:Nat):Int)):=by
  refine a9 (fun i:Nat=>(((msk (fn l) i:Nat):Int),(i:Int))) l.length (aw (by omega)) _ (fun i hi=> ?_) ?_ _ rfl
  ·have e0:msk (fn l) (i+1)=msk (fn l) i+if l.getD i 0=0 then 0 else 2 ^ i:=rfl
   by_cases h0:l.getD i 0=0
   ·simp(disch:=omega)only[y9,rs];rw[ag,e0,if_pos h0];rfl
   ·have hm:=q30 (fn l) i;have hp:2 ^ i≤2 ^ 60:=Nat.pow_le_pow_right (by omega) (by omega);have e1:=zfs (msk (fn l) i) (2 ^ i) (by omega) (by omega);have e2:msk (fn l) i|||2 ^ i=msk (fn l) i+2 ^ i:=by
     have:=Nat.two_pow_add_eq_or_of_lt hm 1;rw[Nat.mul_one]at this;rw[Nat.or_comm,←this,Nat.add_comm]
    have e3:=j1u (n:=i) (by omega);have d:(decide ((0:Int)≤(i:Int)))=true:=decide_eq_true (by omega);simp(disch:=omega)only[y9,e3,d,ls,rs];rw[e1,e2,ag,e0,if_neg h0]
  ·simp(disch:=omega)only[y9,rs]
 unfold ni;rw[hL];rfl
theorem qkr{n:Nat}(a b:List Int)(hn:n≤60):decide (yp .andNot .u64 ((msk (fn a) n:Nat):Int) ((msk (fn b) n:Nat):Int)=0)=cl n a b:=by
 have ha:=q30 (fn a) n;have hb:=q30 (fn b) n;have hp:2 ^ n≤2 ^ 60:=Nat.pow_le_pow_right (by omega) hn;have e:yp .andNot .u64 ((msk (fn a) n:Nat):Int) ((msk (fn b) n:Nat):Int)=((BitVec.ofNat 64 (msk (fn a) n)&&& ~~~ BitVec.ofNat 64 (msk (fn b) n)).toNat:Int):=by
  unfold yp;simp only[];rw[show IntKind.u64.bits=64 from rfl,jz4,jz4];exact jzg _ (BitVec.isLt _)
 rw[e,Bool.eq_iff_iff,qeu,decide_eq_true_eq];have key:∀i,(BitVec.ofNat 64 (msk (fn a) n)&&& ~~~ BitVec.ofNat 64 (msk (fn b) n)).toNat.testBit i=(decide (i<n)&&(!decide (fn a i=0)&&decide (fn b i=0))):=by
  intro i;rw[BitVec.testBit_toNat];simp only[BitVec.getLsbD_and,BitVec.getLsbD_not,BitVec.getLsbD_ofNat,jax];by_cases h:i<n
  ·have:i<64:=by omega
   simp[h,this]
  ·simp[h]
 constructor
 ·intro h i hi h1 h2;have h0:(BitVec.ofNat 64 (msk (fn a) n)&&& ~~~ BitVec.ofNat 64 (msk (fn b) n)).toNat=0:=by omega
  have:=key i;rw[h0]at this;simp[hi,h1,h2]at this
 ·intro h;have h0:(BitVec.ofNat 64 (msk (fn a) n)&&& ~~~ BitVec.ofNat 64 (msk (fn b) n)).toNat=0:=by
   refine Nat.eq_of_testBit_eq fun i=> ?_
   rw[key i,Nat.zero_testBit];by_cases hi:i<n
   ·by_cases h1:fn a i=0
    ·simp[h1]
    ·have h2:=h i hi h1;simp[h2]
   ·simp[hi]
  omega
theorem jzb(x:Int)(a:List Int)(y:Int)(b:List Int)(hab:a.length≤b.length)(ha:a.length≤1000)(hb:∀i,-600000000≤a.getD i 0∧a.getD i 0≤600000000∧-600000000≤b.getD i 0∧b.getD i 0≤600000000)(hx: -600000000≤x∧x≤600000000)(hy: -600000000≤y∧y≤600000000):
  qg7 x a y b=some (qga x a y b):=by
 have hL:jbz x a y b (a.length:Int) (0,bh a.length fun _=>0)=some (.inl (qga x a y b)):=by
  refine a9 (fun i:Nat=>((i:Int),bh a.length fun j=>if j<i then x*a.getD j 0+y*b.getD j 0 else 0)) a.length (aw (by omega)) _ (fun i hi=> ?_) ?_ _ (by simp)
  ·obtain⟨b1,b2,b3,b4⟩:=hb i;have m1:=lj (a:=600000000) (b:=600000000) hx ⟨b1,b2⟩;have m2:=lj (a:=600000000) (b:=600000000) hy ⟨b3,b4⟩;simp(disch:=omega)only[qim,bn,rs];rw[ag,ml];refine congrArg some (congrArg LR.next (Prod.ext rfl (bp fun j hj=> ?_)));by_cases e:j=i
   ·subst e;rw[if_pos rfl,if_pos (by omega)]
   ·rw[if_neg e];by_cases h2:j<i
    ·rw[if_pos h2,if_pos (by omega)]
    ·rw[if_neg h2,if_neg (by omega)]
  ·have e:(bh a.length fun j=>if j<a.length then x*a.getD j 0+y*b.getD j 0 else 0)=qga x a y b:=bp fun j hj=>if_pos hj
   rw[e];simp(disch:=omega)only[qim,rs]
 unfold qg7;rw[Int.toNat_natCast,qa9,hL];simp(disch:=omega)only[rs]
theorem jlt{x g:Int}{b:Int}(h: -b≤x∧x≤b): -b≤Int.tdiv x g∧Int.tdiv x g≤b:=by
 have h1:(Int.tdiv x g).natAbs=x.natAbs/g.natAbs:=Int.natAbs_tdiv x g;have h2:x.natAbs/g.natAbs≤x.natAbs:=Nat.div_le_self _ _;omega
theorem jkc(l:List Int)(f:Int→Int):l.map f=bh l.length fun i=>f (l.getD i 0):=by
 conv=>lhs;rw[q5w l 0]
 unfold bh;rw[List.map_map];rfl
theorem jji{l:List Int}{g:Int}{i:Nat}(hi:i<l.length):(bh l.length fun j=>if j<i then Int.tdiv (l.getD j 0) g else l.getD j 0).set i (Int.tdiv (l.getD i 0) g)=bh l.length fun j=>if j<i+1 then Int.tdiv (l.getD j 0) g else l.getD j 0:=by
 rw[ml];refine bp fun j hj=> ?_
 by_cases e:j=i
 ·subst e;rw[if_pos rfl,if_pos (by omega)]
 ·rw[if_neg e];by_cases h2:j<i
  ·rw[if_pos h2,if_pos (by omega)]
  ·rw[if_neg h2,if_neg (by omega)]
theorem j0j(l:List Int)(g:Int)(hg:1<g)(hl:l.length≤1000000)(hb:∀i,-4611686018427387904≤l.getD i 0∧l.getD i 0≤4611686018427387904)(md:List Int)(r0 r1:Rw):
  qkx g (l.length:Int) md r0 r1 (0,l)=some (.inl (vj g l)):=by
 have e:vj g l=bh l.length fun j=>if j<l.length then Int.tdiv (l.getD j 0) g else l.getD j 0:=by
  unfold vj;rw[decide_eq_true hg,cond_true,jkc];exact bp fun j hj=>(if_pos hj).symm
 rw[e];refine a9 (fun i:Nat=>((i:Int),bh l.length fun j=>if j<i then Int.tdiv (l.getD j 0) g else l.getD j 0)) l.length (aw (by omega)) _ (fun i hi=> ?_) ?_ _ (by
  have:(bh l.length fun j=>if j<0 then Int.tdiv (l.getD j 0) g else l.getD j 0)=l:=by
   conv=>rhs;rw[q5w l 0]
   exact bp fun j hj=>if_neg (by omega)
  simp only[this];rfl)
 ·have hd:=jlt (g:=g) (hb i);have e1:(bh l.length fun j=>if j<i then Int.tdiv (l.getD j 0) g else l.getD j 0).getD i 0=l.getD i 0:=by
   rw[di hi,if_neg (by omega)]
  have hg0:g≠0:=by omega
  simp(disch:=omega)only[sd,bn,e1,qq6,rs];rw[ag,jji hi]
 ·simp(disch:=omega)only[sd,rs]
theorem j0k(l:List Int)(g:Int)(hg:1<g)(hl:l.length≤1000000)(hb:∀i,-4611686018427387904≤l.getD i 0∧l.getD i 0≤4611686018427387904)(lf:List Int)(r0 r1:Rw):
  qky lf g (l.length:Int) r0 r1 (0,l,[])=some (.inl (vj g l,[])):=by
 have e:vj g l=bh l.length fun j=>if j<l.length then Int.tdiv (l.getD j 0) g else l.getD j 0:=by
  unfold vj;rw[decide_eq_true hg,cond_true,jkc];exact bp fun j hj=>(if_pos hj).symm
 rw[e];refine a9 (fun i:Nat=>((i:Int),(bh l.length fun j=>if j<i then Int.tdiv (l.getD j 0) g else l.getD j 0),([]:List Int))) l.length (aw (by omega)) _ (fun i hi=> ?_) ?_ _ (by
  have:(bh l.length fun j=>if j<0 then Int.tdiv (l.getD j 0) g else l.getD j 0)=l:=by
   conv=>rhs;rw[q5w l 0]
   exact bp fun j hj=>if_neg (by omega)
  simp only[this];rfl)
 ·have hd:=jlt (g:=g) (hb i);have e1:(bh l.length fun j=>if j<i then Int.tdiv (l.getD j 0) g else l.getD j 0).getD i 0=l.getD i 0:=by
   rw[di hi,if_neg (by omega)]
  have hg0:g≠0:=by omega
  simp(disch:=omega)only[se,bn,e1,qq6,rs];rw[ag,jji hi]
 ·simp(disch:=omega)only[se,rs]
def lfE(S:List br):Rw:=S.map fun r=>r.1
def mn(S:List br):Rw:=S.map fun r=>r.2
theorem jcq(S:List br)(i:Nat):(lfE S).getD i []=(S.getD i ([],[])).1:=by
 unfold lfE;rw[List.getD_eq_getElem?_getD,List.getElem?_map,List.getD_eq_getElem?_getD];cases S[i]? <;>rfl
theorem qpf(S:List br)(i:Nat):(mn S).getD i []=(S.getD i ([],[])).2:=by
 unfold mn;rw[List.getD_eq_getElem?_getD,List.getElem?_map,List.getD_eq_getElem?_getD];cases S[i]? <;>rfl
theorem qe2(S:List br):(lfE S).length=S.length:=List.length_map _
theorem g8(S:List br):(mn S).length=S.length:=List.length_map _
end Go.Proofs.YtclbndfjhjladaaGreat
