/-
  Flow: the program's elimination, step by step.
-/
import Derived.Test.YtclbndfjhjladaaGreatZ5PF2
import Derived.Test.YtclbndfjhjladaaGreatZ5X5
set_option linter.all false
namespace Go.Proofs.YtclbndfjhjladaaGreat
open Go.K Go.M
theorem jmb{E Rt:Type}{step:Int×Int→Option (LR (Int×Int) E Rt)}(f:Int→E)(h:∀a b:Nat,step ((a:Int),(b:Int))=some (if b=0 then .done (f (a:Int))else .next ((b:Int),Int.tmod (a:Int) (b:Int)))):∀(n a b m:Nat),b<n→n≤m→qva step m ((a:Int),(b:Int))=some (.inl (f (Nat.gcd a b:Int))):=by
 intro n
 induction n with
 |zero=>intro a b m hb;omega
 |succ n ih=>
  intro a b m hb hm;obtain⟨m,rfl⟩:∃q,m=q+1:=⟨m-1,by omega⟩;rw[n8,h,ax];by_cases h0:b=0
  ·rw[if_pos h0];subst h0;rw[Nat.gcd_zero_right];rfl
  ·rw[if_neg h0];have hlt:a % b<b:=Nat.mod_lt _ (by omega);have e:Int.tmod (a:Int) (b:Int)=((a % b:Nat):Int):=by rw[Int.tmod_eq_emod_of_nonneg (by omega)];exact(Int.natCast_emod a b).symm
   have e2:Nat.gcd a b=Nat.gcd b (a % b):=by rw[Nat.gcd_comm,Nat.gcd_rec,Nat.gcd_comm]
   rw[e2];simp only[e];exact ih b (a % b) m (by omega) (by omega)
theorem je5(a b:Nat)(hb:b≤9223372036854775807)(l:List Int)(x y:Int):qtc l x y ((a:Int),(b:Int))=some (.inl (Nat.gcd a b:Int)):=
 jmb (step:=fun s:Int×Int=>qc7 (R:=LR (Int×Int) Int Int) l x y s.1 s.2 (fun a' =>some (.next a')) (fun e=>some (.done e)) (fun r=>some (.ret r))) id (fun a b=>by
  by_cases h:b=0
  ·subst h;simp(disch:=omega)only[qc7,rs];rfl
  ·have h' :(b:Int)≠0:=by omega
   simp(disch:=omega)only[qc7,q4n,rs];rw[if_neg h]) (b+1) a b many (by omega) (by unfold many;omega)
theorem jpk(l:List Int)(hl:l.length≤1000000)(hb:∀i,-4611686018427387904≤l.getD i 0∧l.getD i 0≤4611686018427387904):qo9 l=some (qtg l:Int):=by
 have hL:q45 l (l.length:Int) (0,0)=some (.inl (qtg l:Int)):=by
  unfold qtg;refine cn (fun i:Nat=>((gN (fn l) i:Int),(i:Int))) l.length (bc (by omega)) _ (fun i hi=> ?_) ?_ _ rfl
  ·have hbi:=hb i;have e0:gN (fn l) (i+1)=Nat.gcd (gN (fn l) i) (l.getD i 0).natAbs:=rfl;by_cases hn:l.getD i 0<0
   ·have e1:(0-l.getD i 0:Int)=((l.getD i 0).natAbs:Int):=by omega
    have h2:=je5 (gN (fn l) i) (l.getD i 0).natAbs (by omega) l (l.length:Int) (i:Int);rw[←e1]at h2;simp(disch:=omega)only[qc8,h2,rs];rw[ah,e0]
   ·have e1:(l.getD i 0:Int)=((l.getD i 0).natAbs:Int):=by omega
    have h2:=je5 (gN (fn l) i) (l.getD i 0).natAbs (by omega) l (l.length:Int) (i:Int);rw[←e1]at h2;simp(disch:=omega)only[qc8,h2,rs];rw[ah,e0]
  ·simp(disch:=omega)only[qc8,rs]
 unfold qo9;rw[hL];rfl
theorem jsh(m:Nat):BitVec.ofInt 64 (m:Int)=BitVec.ofNat 64 m:=by
 apply BitVec.eq_of_toNat_eq;simp[BitVec.toNat_ofInt]
theorem j8v(a b:Nat)(ha:a<2 ^ 63)(hb:b<2 ^ 63):yi .or .u64 (a:Int) (b:Int)=((a|||b:Nat):Int):=by
 have hlt:a|||b<2 ^ 63:=Nat.or_lt_two_pow ha hb;unfold yi;simp only[];rw[show IntKind.u64.bits=64 from rfl,jsh,jsh,BitVec.toNat_or,BitVec.toNat_ofNat,BitVec.toNat_ofNat,Nat.mod_eq_of_lt (by omega),Nat.mod_eq_of_lt (by omega)];exact jrq _ (by omega)
theorem jtm(l:List Int)(hl:l.length≤60):nv l=some ((msk (fn l) l.length:Nat):Int):=by
 have hL:q01 l (l.length:Int) (0,0)=some (.inl ((msk (fn l) l.length:Nat):Int)):=by
  refine cn (fun i:Nat=>(((msk (fn l) i:Nat):Int),(i:Int))) l.length (bc (by omega)) _ (fun i hi=> ?_) ?_ _ rfl
  ·have e0:msk (fn l) (i+1)=msk (fn l) i+if l.getD i 0=0 then 0 else 2 ^ i:=rfl
   by_cases h0:l.getD i 0=0
   ·simp(disch:=omega)only[yv,rs];rw[ah,e0,if_pos h0];rfl
   ·have hm:=qzc (fn l) i;have hp:2 ^ i≤2 ^ 60:=Nat.pow_le_pow_right (by omega) (by omega);have e1:=j8v (msk (fn l) i) (2 ^ i) (by omega) (by omega);have e2:msk (fn l) i|||2 ^ i=msk (fn l) i+2 ^ i:=by
     have:=Nat.two_pow_add_eq_or_of_lt hm 1;rw[Nat.mul_one]at this;rw[Nat.or_comm,←this,Nat.add_comm]
    have e3:=jua (n:=i) (by omega);have d:(decide ((0:Int)≤(i:Int)))=true:=decide_eq_true (by omega);simp(disch:=omega)only[yv,e3,d,nu,rs];rw[e1,e2,ah,e0,if_neg h0]
  ·simp(disch:=omega)only[yv,rs]
 unfold nv;rw[hL];rfl
theorem qi3{n:Nat}(a b:List Int)(hn:n≤60):decide (yi .andNot .u64 ((msk (fn a) n:Nat):Int) ((msk (fn b) n:Nat):Int)=0)=di n a b:=by
 have ha:=qzc (fn a) n;have hb:=qzc (fn b) n;have hp:2 ^ n≤2 ^ 60:=Nat.pow_le_pow_right (by omega) hn;have e:yi .andNot .u64 ((msk (fn a) n:Nat):Int) ((msk (fn b) n:Nat):Int)=((BitVec.ofNat 64 (msk (fn a) n)&&& ~~~ BitVec.ofNat 64 (msk (fn b) n)).toNat:Int):=by
  unfold yi;simp only[];rw[show IntKind.u64.bits=64 from rfl,jsh,jsh];exact jrq _ (BitVec.isLt _)
 rw[e,Bool.eq_iff_iff,qd1,decide_eq_true_eq];have key:∀i,(BitVec.ofNat 64 (msk (fn a) n)&&& ~~~ BitVec.ofNat 64 (msk (fn b) n)).toNat.testBit i=(decide (i<n)&&(!decide (fn a i=0)&&decide (fn b i=0))):=by
  intro i;rw[BitVec.testBit_toNat];simp only[BitVec.getLsbD_and,BitVec.getLsbD_not,BitVec.getLsbD_ofNat,q36];by_cases h:i<n
  ·have:i<64:=by omega
   simp[h,this]
  ·simp[h]
 constructor
 ·intro h i hi h1 h2;have h0:(BitVec.ofNat 64 (msk (fn a) n)&&& ~~~ BitVec.ofNat 64 (msk (fn b) n)).toNat=0:=by omega
  have:=key i;rw[h0]at this;simp[hi,h1,h2]at this
 ·intro h;have h0:(BitVec.ofNat 64 (msk (fn a) n)&&& ~~~ BitVec.ofNat 64 (msk (fn b) n)).toNat=0:=by
   refine Nat.eq_of_testBit_eq fun i=> ?_
   rw[key i,Nat.zero_testBit];by_cases hi:i<n
   ·by_cases h1:fn a i=0
    ·simp[h1]
    ·have h2:=h i hi h1;simp[h2]
   ·simp[hi]
  omega
theorem jrm(x:Int)(a:List Int)(y:Int)(b:List Int)(hab:a.length≤b.length)(ha:a.length≤1000)(hb:∀i,-600000000≤a.getD i 0∧a.getD i 0≤600000000∧-600000000≤b.getD i 0∧b.getD i 0≤600000000)(hx: -600000000≤x∧x≤600000000)(hy: -600000000≤y∧y≤600000000):
  qf2 x a y b=some (jcg x a y b):=by
 have hL:q5d x a y b (a.length:Int) (0,bh a.length fun _=>0)=some (.inl (jcg x a y b)):=by
  refine cn (fun i:Nat=>((i:Int),bh a.length fun j=>if j<i then x*a.getD j 0+y*b.getD j 0 else 0)) a.length (bc (by omega)) _ (fun i hi=> ?_) ?_ _ (by simp)
  ·obtain⟨b1,b2,b3,b4⟩:=hb i;have m1:=oi (a:=600000000) (b:=600000000) hx ⟨b1,b2⟩;have m2:=oi (a:=600000000) (b:=600000000) hy ⟨b3,b4⟩;simp(disch:=omega)only[qhg,cq,rs];rw[ah,qr];refine congrArg some (congrArg LR.next (Prod.ext rfl (cd fun j hj=> ?_)));by_cases e:j=i
   ·subst e;rw[if_pos rfl,if_pos (by omega)]
   ·rw[if_neg e];by_cases h2:j<i
    ·rw[if_pos h2,if_pos (by omega)]
    ·rw[if_neg h2,if_neg (by omega)]
  ·have e:(bh a.length fun j=>if j<a.length then x*a.getD j 0+y*b.getD j 0 else 0)=jcg x a y b:=cd fun j hj=>if_pos hj
   rw[e];simp(disch:=omega)only[qhg,rs]
 unfold qf2;rw[Int.toNat_natCast,qfj,hL];simp(disch:=omega)only[rs]
theorem jlg{x g:Int}{b:Int}(h: -b≤x∧x≤b): -b≤Int.tdiv x g∧Int.tdiv x g≤b:=by
 have h1:(Int.tdiv x g).natAbs=x.natAbs/g.natAbs:=Int.natAbs_tdiv x g;have h2:x.natAbs/g.natAbs≤x.natAbs:=Nat.div_le_self _ _;omega
theorem jj8(l:List Int)(f:Int→Int):l.map f=bh l.length fun i=>f (l.getD i 0):=by
 conv=>lhs;rw[jix l 0]
 unfold bh;rw[List.map_map];rfl
theorem jjt{l:List Int}{g:Int}{i:Nat}(hi:i<l.length):(bh l.length fun j=>if j<i then Int.tdiv (l.getD j 0) g else l.getD j 0).set i (Int.tdiv (l.getD i 0) g)=bh l.length fun j=>if j<i+1 then Int.tdiv (l.getD j 0) g else l.getD j 0:=by
 rw[qr];refine cd fun j hj=> ?_
 by_cases e:j=i
 ·subst e;rw[if_pos rfl,if_pos (by omega)]
 ·rw[if_neg e];by_cases h2:j<i
  ·rw[if_pos h2,if_pos (by omega)]
  ·rw[if_neg h2,if_neg (by omega)]
theorem jsz(l:List Int)(g:Int)(hg:1<g)(hl:l.length≤1000000)(hb:∀i,-4611686018427387904≤l.getD i 0∧l.getD i 0≤4611686018427387904)(md:List Int)(r0 r1:Rw):
  qjc g (l.length:Int) md r0 r1 (0,l)=some (.inl (qob g l)):=by
 have e:qob g l=bh l.length fun j=>if j<l.length then Int.tdiv (l.getD j 0) g else l.getD j 0:=by
  unfold qob;rw[decide_eq_true hg,cond_true,jj8];exact cd fun j hj=>(if_pos hj).symm
 rw[e];refine cn (fun i:Nat=>((i:Int),bh l.length fun j=>if j<i then Int.tdiv (l.getD j 0) g else l.getD j 0)) l.length (bc (by omega)) _ (fun i hi=> ?_) ?_ _ (by
  have:(bh l.length fun j=>if j<0 then Int.tdiv (l.getD j 0) g else l.getD j 0)=l:=by
   conv=>rhs;rw[jix l 0]
   exact cd fun j hj=>if_neg (by omega)
  simp only[this];rfl)
 ·have hd:=jlg (g:=g) (hb i);have e1:(bh l.length fun j=>if j<i then Int.tdiv (l.getD j 0) g else l.getD j 0).getD i 0=l.getD i 0:=by
   rw[fq hi,if_neg (by omega)]
  have hg0:g≠0:=by omega
  simp(disch:=omega)only[s6,cq,e1,q4n,rs];rw[ah,jjt hi]
 ·simp(disch:=omega)only[s6,rs]
theorem js0(l:List Int)(g:Int)(hg:1<g)(hl:l.length≤1000000)(hb:∀i,-4611686018427387904≤l.getD i 0∧l.getD i 0≤4611686018427387904)(lf:List Int)(r0 r1:Rw):
  qjd lf g (l.length:Int) r0 r1 (0,l,[])=some (.inl (qob g l,[])):=by
 have e:qob g l=bh l.length fun j=>if j<l.length then Int.tdiv (l.getD j 0) g else l.getD j 0:=by
  unfold qob;rw[decide_eq_true hg,cond_true,jj8];exact cd fun j hj=>(if_pos hj).symm
 rw[e];refine cn (fun i:Nat=>((i:Int),(bh l.length fun j=>if j<i then Int.tdiv (l.getD j 0) g else l.getD j 0),([]:List Int))) l.length (bc (by omega)) _ (fun i hi=> ?_) ?_ _ (by
  have:(bh l.length fun j=>if j<0 then Int.tdiv (l.getD j 0) g else l.getD j 0)=l:=by
   conv=>rhs;rw[jix l 0]
   exact cd fun j hj=>if_neg (by omega)
  simp only[this];rfl)
 ·have hd:=jlg (g:=g) (hb i);have e1:(bh l.length fun j=>if j<i then Int.tdiv (l.getD j 0) g else l.getD j 0).getD i 0=l.getD i 0:=by
   rw[fq hi,if_neg (by omega)]
  have hg0:g≠0:=by omega
  simp(disch:=omega)only[s7,cq,e1,q4n,rs];rw[ah,jjt hi]
 ·simp(disch:=omega)only[s7,rs]
def lfE(S:List bz):Rw:=S.map fun r=>r.1
def td(S:List bz):Rw:=S.map fun r=>r.2
theorem q52(S:List bz)(i:Nat):(lfE S).getD i []=(S.getD i ([],[])).1:=by
 unfold lfE;rw[List.getD_eq_getElem?_getD,List.getElem?_map,List.getD_eq_getElem?_getD];cases S[i]? <;>rfl
theorem qno(S:List bz)(i:Nat):(td S).getD i []=(S.getD i ([],[])).2:=by
 unfold td;rw[List.getD_eq_getElem?_getD,List.getElem?_map,List.getD_eq_getElem?_getD];cases S[i]? <;>rfl
theorem qd8(S:List bz):(lfE S).length=S.length:=List.length_map _
theorem jy(S:List bz):(td S).length=S.length:=List.length_map _
end Go.Proofs.YtclbndfjhjladaaGreat
