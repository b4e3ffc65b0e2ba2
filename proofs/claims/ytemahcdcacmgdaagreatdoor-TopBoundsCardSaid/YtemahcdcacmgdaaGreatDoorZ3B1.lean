/-
  Invariants of a net: the list of the minimal ones (picked out of Flow's texts).
-/
import Derived.Test.YtemahcdcacmgdaaGreatDoorZ3A1
import Derived.Test.YtemahcdcacmgdaaGreatDoorZ3X5
import Derived.Test.YtemahcdcacmgdaaGreatDoorZ3Ks
set_option linter.all false
namespace Go.Proofs.YtemahcdcacmgdaaGreatDoor
open Go.K Go.M
def jio(t:ah)(p:Int):Int:=(if jlo t.2.2.1 p then 1 else 0)-(if jlo t.2.1 p then 1 else 0)
theorem jwc(t:ah)(p:Int): -1≤jio t p∧jio t p≤1:=by unfold jio;repeat' split<;>omega
theorem jpd(t:ah)(p:Int)(h1:t.2.1.length≤1000000)(h2:t.2.2.1.length≤1000000):qiv t p=some (jio t p):=by
 unfold qiv jio;rw[q3m _ h1,q3m _ h2];cases jlo t.2.1 p<;>cases jlo t.2.2.1 p<;>rfl
theorem ju8(n:Nat)(h:n<2 ^ 64):IntKind.wrap .u64 (n:Int)=(n:Int):=by
 simp[IntKind.wrap,IntKind.bits,IntKind.signed];omega
theorem jw8{n:Nat}(h:n<64):jw7 .u64 1 (n:Int)=((2 ^ n:Nat):Int):=by
 have hp:2 ^ n<2 ^ 64:=Nat.pow_lt_pow_right (by omega) h;unfold jw7;rw[show min (Int.toNat (n:Int)) IntKind.u64.bits=n by simp[IntKind.bits];omega,show((1:Int)*2 ^ n)=((2 ^ n:Nat):Int) by simp];exact ju8 _ hp
theorem jxf{d:Rw}(hl:d.length<1000000):jqx d=some (srt d):=if_pos (by omega)
theorem jpx{E Rt:Type}{step:Int×Int→Option (LR (Int×Int) E Rt)}(f:Int→E)(h:∀a b:Nat,step ((a:Int),(b:Int))=some (if b=0 then .done (f (a:Int))else .next ((b:Int),Int.tmod (a:Int) (b:Int)))):∀(n a b m:Nat),b<n→n≤m→qvx step m ((a:Int),(b:Int))=some (.inl (f (Nat.gcd a b:Int))):=by
 intro n
 induction n with
 |zero=>intro a b m hb;omega
 |succ n ih=>
  intro a b m hb hm;obtain⟨m,rfl⟩:∃q,m=q+1:=⟨m-1,by omega⟩;rw[ry,h,bi];by_cases h0:b=0
  ·rw[if_pos h0];subst h0;rw[Nat.gcd_zero_right];rfl
  ·rw[if_neg h0];have hlt:a % b<b:=Nat.mod_lt _ (by omega);have e:Int.tmod (a:Int) (b:Int)=((a % b:Nat):Int):=by rw[Int.tmod_eq_emod_of_nonneg (by omega)];exact(Int.natCast_emod a b).symm
   have e2:Nat.gcd a b=Nat.gcd b (a % b):=by rw[Nat.gcd_comm,Nat.gcd_rec,Nat.gcd_comm]
   rw[e2];simp only[e];exact ih b (a % b) m (by omega) (by omega)
theorem jik(a b:Nat)(hb:b≤9223372036854775807)(l:List Int)(x y:Int):qvs l x y ((a:Int),(b:Int))=some (.inl (Nat.gcd a b:Int)):=
 jpx (step:=fun s:Int×Int=>qdy (R:=LR (Int×Int) Int Int) l x y s.1 s.2 (fun a' =>some (.next a')) (fun e=>some (.done e)) (fun r=>some (.ret r))) id (fun a b=>by
  by_cases h:b=0
  ·subst h;simp(disch:=omega)only[qdy,rs];rfl
  ·have h' :(b:Int)≠0:=by omega
   simp(disch:=omega)only[qdy,jex,rs];rw[if_neg h]) (b+1) a b many (by omega) (by unfold many;omega)
theorem jsy(l:List Int)(hl:l.length≤1000000)(hb:∀i,-4611686018427387904≤l.getD i 0∧l.getD i 0≤4611686018427387904):qrg l=some (qvw l:Int):=by
 have hL:q79 l (l.length:Int) (0,0)=some (.inl (qvw l:Int)):=by
  unfold qvw;refine ct (fun i:Nat=>((gN (fn l) i:Int),(i:Int))) l.length (bw (by omega)) _ (fun i hi=> ?_) ?_ _ rfl
  ·have hbi:=hb i;have e0:gN (fn l) (i+1)=Nat.gcd (gN (fn l) i) (l.getD i 0).natAbs:=rfl;by_cases hn:l.getD i 0<0
   ·have e1:(0-l.getD i 0:Int)=((l.getD i 0).natAbs:Int):=by omega
    have h2:=jik (gN (fn l) i) (l.getD i 0).natAbs (by omega) l (l.length:Int) (i:Int);rw[←e1]at h2;simp(disch:=omega)only[qdz,h2,rs];rw[al,e0]
   ·have e1:(l.getD i 0:Int)=((l.getD i 0).natAbs:Int):=by omega
    have h2:=jik (gN (fn l) i) (l.getD i 0).natAbs (by omega) l (l.length:Int) (i:Int);rw[←e1]at h2;simp(disch:=omega)only[qdz,h2,rs];rw[al,e0]
  ·simp(disch:=omega)only[qdz,rs]
 unfold qrg;rw[hL];rfl
theorem jvr(m:Nat):BitVec.ofInt 64 (m:Int)=BitVec.ofNat 64 m:=by
 apply BitVec.eq_of_toNat_eq;simp[BitVec.toNat_ofInt]
theorem j7l(a b:Nat)(ha:a<2 ^ 63)(hb:b<2 ^ 63):qw3 .or .u64 (a:Int) (b:Int)=((a|||b:Nat):Int):=by
 have hlt:a|||b<2 ^ 63:=Nat.or_lt_two_pow ha hb;unfold qw3;simp only[];rw[show IntKind.u64.bits=64 from rfl,jvr,jvr,BitVec.toNat_or,BitVec.toNat_ofNat,BitVec.toNat_ofNat,Nat.mod_eq_of_lt (by omega),Nat.mod_eq_of_lt (by omega)];exact ju8 _ (by omega)
theorem jwn(l:List Int)(hl:l.length≤60):ox l=some ((msk (fn l) l.length:Nat):Int):=by
 have hL:q33 l (l.length:Int) (0,0)=some (.inl ((msk (fn l) l.length:Nat):Int)):=by
  refine ct (fun i:Nat=>(((msk (fn l) i:Nat):Int),(i:Int))) l.length (bw (by omega)) _ (fun i hi=> ?_) ?_ _ rfl
  ·have e0:msk (fn l) (i+1)=msk (fn l) i+if l.getD i 0=0 then 0 else 2 ^ i:=rfl
   by_cases h0:l.getD i 0=0
   ·simp(disch:=omega)only[zc,rs];rw[al,e0,if_pos h0];rfl
   ·have hm:=q1w (fn l) i;have hp:2 ^ i≤2 ^ 60:=Nat.pow_le_pow_right (by omega) (by omega);have e1:=j7l (msk (fn l) i) (2 ^ i) (by omega) (by omega);have e2:msk (fn l) i|||2 ^ i=msk (fn l) i+2 ^ i:=by
     have:=Nat.two_pow_add_eq_or_of_lt hm 1;rw[Nat.mul_one]at this;rw[Nat.or_comm,←this,Nat.add_comm]
    have e3:=jw8 (n:=i) (by omega);have d:(decide ((0:Int)≤(i:Int)))=true:=decide_eq_true (by omega);simp(disch:=omega)only[zc,e3,d,q7e,rs];rw[e1,e2,al,e0,if_neg h0]
  ·simp(disch:=omega)only[zc,rs]
 unfold ox;rw[hL];rfl
theorem qkh{n:Nat}(a b:List Int)(hn:n≤60):decide (qw3 .andNot .u64 ((msk (fn a) n:Nat):Int) ((msk (fn b) n:Nat):Int)=0)=dq n a b:=by
 have ha:=q1w (fn a) n;have hb:=q1w (fn b) n;have hp:2 ^ n≤2 ^ 60:=Nat.pow_le_pow_right (by omega) hn;have e:qw3 .andNot .u64 ((msk (fn a) n:Nat):Int) ((msk (fn b) n:Nat):Int)=((BitVec.ofNat 64 (msk (fn a) n)&&& ~~~ BitVec.ofNat 64 (msk (fn b) n)).toNat:Int):=by
  unfold qw3;simp only[];rw[show IntKind.u64.bits=64 from rfl,jvr,jvr];exact ju8 _ (BitVec.isLt _)
 rw[e,Bool.eq_iff_iff,qey,decide_eq_true_eq];have key:∀i,(BitVec.ofNat 64 (msk (fn a) n)&&& ~~~ BitVec.ofNat 64 (msk (fn b) n)).toNat.testBit i=(decide (i<n)&&(!decide (fn a i=0)&&decide (fn b i=0))):=by
  intro i;rw[BitVec.testBit_toNat];simp only[BitVec.getLsbD_and,BitVec.getLsbD_not,BitVec.getLsbD_ofNat,q6w];by_cases h:i<n
  ·have:i<64:=by omega
   simp[h,this]
  ·simp[h]
 constructor
 ·intro h i hi h1 h2;have h0:(BitVec.ofNat 64 (msk (fn a) n)&&& ~~~ BitVec.ofNat 64 (msk (fn b) n)).toNat=0:=by omega
  have:=key i;rw[h0]at this;simp[hi,h1,h2]at this
 ·intro h;have h0:(BitVec.ofNat 64 (msk (fn a) n)&&& ~~~ BitVec.ofNat 64 (msk (fn b) n)).toNat=0:=by
   refine Nat.eq_of_testBit_eq fun i=> ?_
   rw[key i,Nat.zero_testBit];by_cases hi:i<n
   ·by_cases h1:fn a i=0
    ·simp[h1]
    ·have h2:=h i hi h1;simp[h2]
   ·simp[hi]
  omega
theorem ju0(x:Int)(a:List Int)(y:Int)(b:List Int)(hab:a.length≤b.length)(ha:a.length≤1000)(hb:∀i,-600000000≤a.getD i 0∧a.getD i 0≤600000000∧-600000000≤b.getD i 0∧b.getD i 0≤600000000)(hx: -600000000≤x∧x≤600000000)(hy: -600000000≤y∧y≤600000000):
  qgw x a y b=some (jf5 x a y b):=by
 have hL:q8h x a y b (a.length:Int) (0,bg a.length fun _=>0)=some (.inl (jf5 x a y b)):=by
  refine ct (fun i:Nat=>((i:Int),bg a.length fun j=>if j<i then x*a.getD j 0+y*b.getD j 0 else 0)) a.length (bw (by omega)) _ (fun i hi=> ?_) ?_ _ (by simp)
  ·obtain⟨b1,b2,b3,b4⟩:=hb i;have m1:=qcq (a:=600000000) (b:=600000000) hx ⟨b1,b2⟩;have m2:=qcq (a:=600000000) (b:=600000000) hy ⟨b3,b4⟩;simp(disch:=omega)only[qix,om,rs];rw[al,qto];refine congrArg some (congrArg LR.next (Prod.ext rfl (f5 fun j hj=> ?_)));by_cases e:j=i
   ·subst e;rw[if_pos rfl,if_pos (by omega)]
   ·rw[if_neg e];by_cases h2:j<i
    ·rw[if_pos h2,if_pos (by omega)]
    ·rw[if_neg h2,if_neg (by omega)]
  ·have e:(bg a.length fun j=>if j<a.length then x*a.getD j 0+y*b.getD j 0 else 0)=jf5 x a y b:=f5 fun j hj=>if_pos hj
   rw[e];simp(disch:=omega)only[qix,rs]
 unfold qgw;rw[Int.toNat_natCast,jor,hL];simp(disch:=omega)only[rs]
theorem jg3{x g:Int}{b:Int}(h: -b≤x∧x≤b): -b≤Int.tdiv x g∧Int.tdiv x g≤b:=by
 have h1:(Int.tdiv x g).natAbs=x.natAbs/g.natAbs:=Int.natAbs_tdiv x g;have h2:x.natAbs/g.natAbs≤x.natAbs:=Nat.div_le_self _ _;omega
theorem jnn(l:List Int)(f:Int→Int):l.map f=bg l.length fun i=>f (l.getD i 0):=by
 conv=>lhs;rw[qs1 l 0]
 unfold bg;rw[List.map_map];rfl
theorem jm6{l:List Int}{g:Int}{i:Nat}(hi:i<l.length):(bg l.length fun j=>if j<i then Int.tdiv (l.getD j 0) g else l.getD j 0).set i (Int.tdiv (l.getD i 0) g)=bg l.length fun j=>if j<i+1 then Int.tdiv (l.getD j 0) g else l.getD j 0:=by
 rw[qto];refine f5 fun j hj=> ?_
 by_cases e:j=i
 ·subst e;rw[if_pos rfl,if_pos (by omega)]
 ·rw[if_neg e];by_cases h2:j<i
  ·rw[if_pos h2,if_pos (by omega)]
  ·rw[if_neg h2,if_neg (by omega)]
theorem jv1(l:List Int)(g:Int)(hg:1<g)(hl:l.length≤1000000)(hb:∀i,-4611686018427387904≤l.getD i 0∧l.getD i 0≤4611686018427387904)(md:List Int)(r0 r1:Rw):
  qku g (l.length:Int) md r0 r1 (0,l)=some (.inl (qpz g l)):=by
 have e:qpz g l=bg l.length fun j=>if j<l.length then Int.tdiv (l.getD j 0) g else l.getD j 0:=by
  unfold qpz;rw[decide_eq_true hg,cond_true,jnn];exact f5 fun j hj=>(if_pos hj).symm
 rw[e];refine ct (fun i:Nat=>((i:Int),bg l.length fun j=>if j<i then Int.tdiv (l.getD j 0) g else l.getD j 0)) l.length (bw (by omega)) _ (fun i hi=> ?_) ?_ _ (by
  have:(bg l.length fun j=>if j<0 then Int.tdiv (l.getD j 0) g else l.getD j 0)=l:=by
   conv=>rhs;rw[qs1 l 0]
   exact f5 fun j hj=>if_neg (by omega)
  simp only[this];rfl)
 ·have hd:=jg3 (g:=g) (hb i);have e1:(bg l.length fun j=>if j<i then Int.tdiv (l.getD j 0) g else l.getD j 0).getD i 0=l.getD i 0:=by
   rw[wa hi,if_neg (by omega)]
  have hg0:g≠0:=by omega
  simp(disch:=omega)only[sm,om,e1,jex,rs];rw[al,jm6 hi]
 ·simp(disch:=omega)only[sm,rs]
theorem jv2(l:List Int)(g:Int)(hg:1<g)(hl:l.length≤1000000)(hb:∀i,-4611686018427387904≤l.getD i 0∧l.getD i 0≤4611686018427387904)(lf:List Int)(r0 r1:Rw):
  qkv lf g (l.length:Int) r0 r1 (0,l,[])=some (.inl (qpz g l,[])):=by
 have e:qpz g l=bg l.length fun j=>if j<l.length then Int.tdiv (l.getD j 0) g else l.getD j 0:=by
  unfold qpz;rw[decide_eq_true hg,cond_true,jnn];exact f5 fun j hj=>(if_pos hj).symm
 rw[e];refine ct (fun i:Nat=>((i:Int),(bg l.length fun j=>if j<i then Int.tdiv (l.getD j 0) g else l.getD j 0),([]:List Int))) l.length (bw (by omega)) _ (fun i hi=> ?_) ?_ _ (by
  have:(bg l.length fun j=>if j<0 then Int.tdiv (l.getD j 0) g else l.getD j 0)=l:=by
   conv=>rhs;rw[qs1 l 0]
   exact f5 fun j hj=>if_neg (by omega)
  simp only[this];rfl)
 ·have hd:=jg3 (g:=g) (hb i);have e1:(bg l.length fun j=>if j<i then Int.tdiv (l.getD j 0) g else l.getD j 0).getD i 0=l.getD i 0:=by
   rw[wa hi,if_neg (by omega)]
  have hg0:g≠0:=by omega
  simp(disch:=omega)only[sq,om,e1,jex,rs];rw[al,jm6 hi]
 ·simp(disch:=omega)only[sq,rs]
def lfE(S:List b9):Rw:=S.map fun r=>r.1
def ta(S:List b9):Rw:=S.map fun r=>r.2
theorem q8u(S:List b9)(i:Nat):(lfE S).getD i []=(S.getD i ([],[])).1:=by
 unfold lfE;rw[List.getD_eq_getElem?_getD,List.getElem?_map,List.getD_eq_getElem?_getD];cases S[i]? <;>rfl
theorem qo5(S:List b9)(i:Nat):(ta S).getD i []=(S.getD i ([],[])).2:=by
 unfold ta;rw[List.getD_eq_getElem?_getD,List.getElem?_map,List.getD_eq_getElem?_getD];cases S[i]? <;>rfl
theorem qe6(S:List b9):(lfE S).length=S.length:=List.length_map _
theorem ja(S:List b9):(ta S).length=S.length:=List.length_map _
abbrev zE:b9:=([],[])
def qb3(n:Nat)(x:b9)(S:List b9):List b9:=S.filter fun r=> !dq n x.2 r.2
theorem jda(n:Nat)(x:b9)(S:List b9)(i:Nat)(hi:i<S.length):qb3 n x (S.take (i+1))=bif dq n x.2 (S.getD i zE).2 then qb3 n x (S.take i)else qb3 n x (S.take i)++[S.getD i zE]:=by
 unfold qb3;rw[ff S i zE hi,List.filter_append];cases h:dq n x.2 (S.getD i zE).2 with
 |true=>rw[jsr (p:=fun r:b9=> !dq n x.2 r.2) (by simp only[h];rfl),List.append_nil];rfl
 |false=>rw[jss (p:=fun r:b9=> !dq n x.2 r.2) (by simp only[h];rfl)];rfl
theorem qyt(n:Nat)(x:b9)(S:List b9)(i:Nat):(qb3 n x (S.take i)).length≤S.length:=by
 unfold qb3;refine Nat.le_trans (List.length_filter_le _ _) ?_;rw[List.length_take];omega
theorem q8t(S:List b9)(x:b9):lfE S++[x.1]=lfE (S++[x]):=by simp[lfE]
theorem q8y(S:List b9)(x:b9):ta S++[x.2]=ta (S++[x]):=by simp[ta]
section
variable {n : Nat} (hn : n ≤ 60) (S : List b9) (hS : ∀ r ∈ S, r.2.length = n) (hSl : S.length ≤ 100000) (x : b9) (hx : x.2.length = n)
include hn in
theorem q8w{l:List Int}(h:l.length=n):ox l=some ((msk (fn l) n:Nat):Int):=by
 rw[jwn l (by omega),h]
include hn hS in
theorem qy2{i:Nat}(hi:i<S.length):ox (S.getD i zE).2=some ((msk (fn (S.getD i zE).2) n:Nat):Int):=q8w hn (hS _ (ba zE hi))
include hn hS hSl in
theorem jrl(r0:Rw):qow x.1 x.2 ((msk (fn x.2) n:Nat):Int) ((ta S).length:Int) (ta S) r0 0=some (bif S.any (fun r=>dq n r.2 x.2)then .inr (r0,ta S)else .inl ()):=by
 have e:S.any (fun r=>dq n r.2 x.2)=(ta S).any (fun m=>dq n m x.2):=by unfold ta;rw[List.any_map];rfl
 rw[e];refine qv0 (ta S) [] (fun m=>dq n m x.2) (r0,ta S) (by rw[ja];omega) (fun i hi=> ?_) ?_
 ·rw[ja]at hi;have hm:=qy2 hn S hS hi;simp(disch:=omega)only[uc,ja,qo5,hm,rs];rw[qkh _ _ hn,al];cases dq n (S.getD i zE).2 x.2<;>rfl
 ·simp(disch:=omega)only[uc,rs]
include hn hS hSl in
theorem jrm:qox x.1 x.2 ((msk (fn x.2) n:Nat):Int) (ta S) ((ta S).length:Int) (lfE S) (ta S) (0,[],[])=some (.inl (lfE (qb3 n x S),ta (qb3 n x S))):=by
 have e:qb3 n x S=qb3 n x (S.take S.length):=by rw[List.take_length]
 rw[e];refine ct (fun i:Nat=>((i:Int),lfE (qb3 n x (S.take i)),ta (qb3 n x (S.take i)))) S.length (bw (by omega)) _ (fun i hi=> ?_) ?_ _ rfl
 ·have hm:=qy2 hn S hS hi;have hk:=qyt n x S i;rw[jda n x S i hi];have ha:=qkh (n:=n) x.2 (S.getD i zE).2 hn;cases hw:dq n x.2 (S.getD i zE).2 with
  |true=>
   rw[hw]at ha;simp(disch:=omega)only[oy,ja,qo5,hm,ha,Bool.not_true,rs];rw[al]
  |false=>
   rw[hw]at ha;simp(disch:=omega)only[oy,ja,qo5,qe6,q8u,hm,ha,Bool.not_false,rs];rw[al,q8t,q8y]
 ·simp(disch:=omega)only[oy,ja,rs]
include hn hS hSl in
theorem jrn(r0:Rw):qkw x.1 x.2 ((msk (fn x.2) n:Nat):Int) ((ta S).length:Int) (ta S) r0 (0,[],[])=some (bif S.any (fun r=>dq n r.2 x.2)then .inr (r0,ta S,[],[])else .inl ([],[])):=by
 have e:S.any (fun r=>dq n r.2 x.2)= !(List.range S.length).all (fun i=> !dq n (S.getD i zE).2 x.2):=by
  rw[jrp S zE (fun r=> !dq n r.2 x.2),Bool.eq_iff_iff];simp
 have h:=qrs (step:=fun a:Int×List Int×List Int=>iu (R:=LR (Int×List Int×List Int) (List Int×List Int) (Rw×Rw×List Int×List Int)) x.1 x.2 ((msk (fn x.2) n:Nat):Int) ((ta S).length:Int) (ta S) r0 a.1 a.2.1 a.2.2 (fun a' =>some (.next a')) (fun e=>some (.done e)) (fun r=>some (.ret r)))
  (fun i:Nat=>((i:Int),([]:List Int),([]:List Int))) S.length (bw (by omega)) (fun i=> !dq n (S.getD i zE).2 x.2) ([],[]) (r0,ta S,[],[]) (fun i hi hp=>by
   have hm:=qy2 hn S hS hi;have ha:=qkh (n:=n) (S.getD i zE).2 x.2 hn;rw[Bool.not_eq_true']at hp;rw[hp]at ha;simp(disch:=omega)only[iu,ja,qo5,hm,ha,rs];rw[al]) (fun i hi hp=>by
   have hm:=qy2 hn S hS hi;have ha:=qkh (n:=n) (S.getD i zE).2 x.2 hn;rw[Bool.not_eq_false']at hp;rw[hp]at ha;simp(disch:=omega)only[iu,ja,qo5,hm,ha,rs]) (by simp(disch:=omega)only[iu,ja,rs])
 refine h.trans ?_;rw[e];cases(List.range S.length).all (fun i=> !dq n (S.getD i zE).2 x.2)<;>rfl
include hn hS hSl in
theorem jro:qkx x.1 x.2 ((msk (fn x.2) n:Nat):Int) (ta S) ((ta S).length:Int) (lfE S) (ta S) (0,[],[],[])=some (.inl (lfE (qb3 n x S),ta (qb3 n x S),[])):=by
 have e:qb3 n x S=qb3 n x (S.take S.length):=by rw[List.take_length]
 rw[e];refine ct (fun i:Nat=>((i:Int),lfE (qb3 n x (S.take i)),ta (qb3 n x (S.take i)),([]:List Int))) S.length (bw (by omega)) _ (fun i hi=> ?_) ?_ _ rfl
 ·have hm:=qy2 hn S hS hi;have hk:=qyt n x S i;rw[jda n x S i hi];have ha:=qkh (n:=n) x.2 (S.getD i zE).2 hn;cases hw:dq n x.2 (S.getD i zE).2 with
  |true=>
   rw[hw]at ha;simp(disch:=omega)only[mf,ja,qo5,hm,ha,Bool.not_true,rs];rw[al]
  |false=>
   rw[hw]at ha;simp(disch:=omega)only[mf,ja,qo5,qe6,q8u,hm,ha,Bool.not_false,rs];rw[al,q8t,q8y]
 ·simp(disch:=omega)only[mf,ja,rs]
abbrev BD(l:List Int):Prop:=∀i,-4611686018427387904≤l.getD i 0∧l.getD i 0≤4611686018427387904
theorem jrt{a b:List Int}(ha:BD a)(hb:BD b):BD (a++b):=by
 intro i;by_cases h:i<a.length
 ·have:=jfq (b:=b) h;unfold fn at this;rw[this];exact ha i
 ·have e:i=a.length+(i-a.length):=by omega
  have:=jfr (a:=a) (b:=b) (i:=i-a.length);unfold fn at this;rw[e,this];exact hb _
include hn hS hSl hx in
theorem jz1(hw:x.1.length≤1000)(h1:BD x.1)(h2:BD x.2)(hg:qvw (x.1++x.2)≤1):qdm x.1 x.2 (lfE S) (ta S)=some (lfE (qvl n S x),ta (qvl n S x)):=by
 have e1:=jsy (x.1++x.2) (by rw[List.length_append];omega) (jrt h1 h2);have e2:=q8w hn hx;have e3:=jrl hn S hS hSl x (lfE S);have e4:=jrm hn S hS hSl x;have hk:=qyt n x S S.length;rw[List.take_length]at hk;unfold qdm qvl;cases ha:S.any (fun r=>dq n r.2 x.2)with
 |true=>
  rw[ha]at e3;simp(disch:=omega)only[lz x.1 (by omega),e1,e2,e3,rs]
 |false=>
  rw[ha,ja]at e3;rw[ja]at e4;simp(disch:=omega)only[lz x.1 (by omega),e1,e2,e3,e4,qe6,ja,rs];rw[q8t,q8y];rfl
include hn hS hSl hx in
theorem jvh:ub x.1 x.2 (lfE S) (ta S) [] []=some (bif S.any (fun r=>dq n r.2 x.2)then .inr (lfE (qvl n S x),ta (qvl n S x),[],[])else .inl (lfE (qvl n S x),ta (qvl n S x),[],[])):=by
 have e2:=q8w hn hx;have e3:=jrn hn S hS hSl x (lfE S);have e4:=jro hn S hS hSl x;have hk:=qyt n x S S.length;rw[List.take_length]at hk;unfold ub ze qvl;cases ha:S.any (fun r=>dq n r.2 x.2)with
 |true=>
  rw[ha]at e3;simp(disch:=omega)only[e2,e3,rs]
 |false=>
  rw[ha,ja]at e3;rw[ja]at e4;simp(disch:=omega)only[e2,e3,e4,qe6,ja,rs];rw[q8t,q8y];rfl
end
theorem jvf{n:Nat}(hn:n≤60)(S:List b9)(hS:∀r∈S,r.2.length=n)(hSl:S.length≤100000)(y:b9)(hy:y.2.length=n)(hw:y.1.length≤1000)(h1:BD y.1)(h2:BD y.2):
  zd y.1 y.2 (lfE S) (ta S)=some (lfE (qvl n S (qrx y)),ta (qvl n S (qrx y)),[],[]):=by
 have e1:=jsy (y.1++y.2) (by rw[List.length_append];omega) (jrt h1 h2);have e5:=jvh hn S hS hSl (qrx y) (by unfold qrx;rw[q7x];exact hy);unfold zd;by_cases hg:(1:Int)<(qvw (y.1++y.2):Int)
 ·have d1:=jv1 y.1 (qvw (y.1++y.2):Int) hg (by omega) h1 y.2 (lfE S) (ta S);have d2:=jv2 y.2 (qvw (y.1++y.2):Int) hg (by omega) h2 (qpz (qvw (y.1++y.2)) y.1) (lfE S) (ta S);unfold qrx at e5⊢;cases ha:S.any (fun r=>dq n r.2 (qpz (qvw (y.1++y.2):Int) y.2))with
  |true=>
   rw[ha]at e5;simp(disch:=omega)only[lz y.1 (by omega),e1,d1,d2,e5,t7,rs]
  |false=>
   rw[ha]at e5;simp(disch:=omega)only[lz y.1 (by omega),e1,d1,d2,e5,qgg,rs]
 ·have n1:qrx y=y:=by
   unfold qrx qpz;rw[decide_eq_false hg];rfl
  rw[n1]at e5⊢;cases ha:S.any (fun r=>dq n r.2 y.2)with
  |true=>
   rw[ha]at e5;simp(disch:=omega)only[lz y.1 (by omega),e1,e5,t7,rs]
  |false=>
   rw[ha]at e5;simp(disch:=omega)only[lz y.1 (by omega),e1,e5,qgg,rs]
theorem j4h:fac 11=39916800:=by decide
theorem jx6{n:Nat}(hn:n≤14):2 ^ n≤16384:=Nat.le_trans (Nat.pow_le_pow_right (by omega) hn) (by decide)
section
variable {n m c : Nat} {A : Nat → Nat → Int} (hA : ∀ i j, -1 ≤ A i j ∧ A i j ≤ 1) {L : List b9} (hL : GoodE n m c A L) (hc : c < m) (hn : n ≤ 14) (hm : m ≤ 60) (hR : c ≤ 11 ∨ n ≤ 12)
include hA hL hn hR in
theorem q2t{r:b9}(hr:r∈L):(∀i,0≤r.2.getD i 0∧r.2.getD i 0≤39916800)∧∀j,-558835200≤r.1.getD j 0∧r.1.getD j 0≤558835200:=by
 obtain⟨h1,h2⟩:=jlf hA hL (R:=11) (by omega) hr;rw[j4h]at h1 h2;refine⟨h1,fun j=> ?_⟩;have:=h2 j;omega
include hL hn in
theorem qyo:L.length≤16384:=Nat.le_trans hL.pw.len (jx6 hn)
theorem jfx{C:b9→Prop}{S:List b9}(hn:n≤14)(h:InvE n (RowOK n m (c+1) A) C S):S.length≤16384:=Nat.le_trans h.pw.len (jx6 hn)
theorem jti{x y:Int}{a b:List Int}(hx: -558835200≤x∧x≤558835200)(hy: -558835200≤y∧y≤558835200)(ha:∀i,-558835200≤a.getD i 0∧a.getD i 0≤558835200)(hb:∀i,-558835200≤b.getD i 0∧b.getD i 0≤558835200):BD (jf5 x a y b):=by
 intro i;by_cases hi:i<a.length
 ·have e:(jf5 x a y b).getD i 0=x*a.getD i 0+y*b.getD i 0:=jfs hi;rw[e];have m1:=qcq (a:=558835200) (b:=558835200) hx (ha i);have m2:=qcq (a:=558835200) (b:=558835200) hy (hb i);omega
 ·rw[List.getD_eq_getElem?_getD,List.getElem?_eq_none (by rw[qyz];omega)];show-4611686018427387904≤(0:Int)∧(0:Int)≤4611686018427387904;omega
abbrev zS(n c:Nat)(L:List b9)(i:Nat):List b9:=(L.take i).foldl (q10 n c) []
theorem q1k{α β:Type}(f:β→α→β)(s:β)(L:List α)(d:α)(i:Nat)(hi:i<L.length):(L.take (i+1)).foldl f s=f ((L.take i).foldl f s) (L.getD i d):=by
 rw[ff L i d hi,List.foldl_append];rfl
include hL hc in
theorem j3u(i:Nat):InvE n (RowOK n m (c+1) A) (fun x=>x∈L.take i∧x.1.getD c 0=0) (zS n c L i):=q9f hL hc (L.take i) fun r hr=>List.mem_of_mem_take hr
include hA hL hc hn hm hR in
theorem j0l:qbw (c:Int) (L.length:Int) (lfE L) (ta L) (0,[],[])=some (.inl (lfE (L.foldl (q10 n c) []),ta (L.foldl (q10 n c) []))):=by
 have e:L.foldl (q10 n c) []=zS n c L L.length:=by unfold zS;rw[List.take_length]
 have hll:=qyo hL hn;rw[e];refine ct (fun i:Nat=>((i:Int),lfE (zS n c L i),ta (zS n c L i))) L.length (bw (by omega)) _ (fun i hi=> ?_) ?_ _ rfl
 ·have hr:L.getD i ([],[])∈L:=ba _ hi;have ho:=hL.row _ hr;have hI:=j3u hL hc i;have hlen:=jfx hn hI;have h1:=ho.wid;have h2:=ho.len;obtain⟨b1,b2⟩:=q2t hA hL hn hR hr;have e2:zS n c L (i+1)=q10 n c (zS n c L i) (L.getD i ([],[])):=q1k _ _ _ _ _ hi;rw[e2];unfold q10;by_cases h0:(L.getD i ([],[])).1.getD c 0=0
  ·have hg:qvw ((L.getD i ([],[])).1++(L.getD i ([],[])).2)≤1:=by
    rw[jnd (A:=A) h2 fun j hj=>ho.left j (by omega)];have:=ho.prim;unfold qtt at this;omega
   have ha:=jz1 (n:=n) (by omega) (zS n c L i) (fun r hr=>(hI.all r hr).len) (by omega) (L.getD i ([],[])) h2 (by omega) (fun j=>by have:=b2 j;omega) (fun j=>by have:=b1 j;omega) hg;rw[decide_eq_true h0,cond_true];simp(disch:=omega)only[fw,qe6,ja,q8u,qo5,ha,rs];rw[al]
  ·rw[decide_eq_false h0,cond_false];simp(disch:=omega)only[fw,qe6,ja,q8u,qo5,rs];rw[al]
 ·simp(disch:=omega)only[fw,rs]
abbrev tS(n c:Nat)(L:List b9)(p:b9)(S:List b9)(k:Nat):List b9:=(L.take k).foldl (qz8 n c p) S
include hA hL hc hn hm hR in
theorem j0m(i:Nat)(hi:i<L.length){C:b9→Prop}(S:List b9)(hS:InvE n (RowOK n m (c+1) A) C S)(v:Int):
  qbx (c:Int) (i:Int) v (i:Int) (L.length:Int) (lfE L) (ta L) (0,lfE S,ta S)=some (.inl (lfE (L.foldl (qz8 n c (L.getD i ([],[]))) S),ta (L.foldl (qz8 n c (L.getD i ([],[]))) S))):=by
 have hpm:L.getD i ([],[])∈L:=ba _ hi;have e:L.foldl (qz8 n c (L.getD i ([],[]))) S=tS n c L (L.getD i ([],[])) S L.length:=by unfold tS;rw[List.take_length]
 have hll:=qyo hL hn;rw[e];refine ct (fun k:Nat=>((k:Int),lfE (tS n c L (L.getD i ([],[])) S k),ta (tS n c L (L.getD i ([],[])) S k))) L.length (bw (by omega)) _ (fun k hk=> ?_) ?_ _ rfl
 ·have hq:L.getD k ([],[])∈L:=ba _ hk;have hop:=hL.row _ hpm;have hoq:=hL.row _ hq;have hI:=jaq hL hc hpm hS (L.take k) fun r hr=>List.mem_of_mem_take hr
  have hI2:=jaq hL hc hpm hS (L.take (k+1)) fun r hr=>List.mem_of_mem_take hr
  have hlen:=jfx hn hI;have hlen2:=jfx hn hI2;have p1:=hop.wid;have p2:=hop.len;have q1:=hoq.wid;have q2:=hoq.len;obtain⟨bp1,bp2⟩:=q2t hA hL hn hR hpm;obtain⟨bq1,bq2⟩:=q2t hA hL hn hR hq;have e2:tS n c L (L.getD i ([],[])) S (k+1)=qz8 n c (L.getD i ([],[])) (tS n c L (L.getD i ([],[])) S k) (L.getD k ([],[])):=q1k _ _ _ _ _ hk;have hlen2:(tS n c L (L.getD i ([],[])) S (k+1)).length≤16384:=hlen2;have hall:=hI.all;have hlen:(tS n c L (L.getD i ([],[])) S k).length≤16384:=hlen;rw[e2]at hlen2⊢;unfold qz8 at hlen2⊢;have hpc:=bp2 c;have hqc:=bq2 c;by_cases h0:(L.getD i ([],[])).1.getD c 0≤0
  ·have d0:decide (0<(L.getD i ([],[])).1.getD c 0)=false:=decide_eq_false (by omega);rw[d0];simp(disch:=omega)only[em,qe6,ja,q8u,qo5,rs];rw[al];rfl
  ·have d0:decide (0<(L.getD i ([],[])).1.getD c 0)=true:=decide_eq_true (by omega);rw[d0]at hlen2⊢;by_cases h1:(0:Int)≤(L.getD k ([],[])).1.getD c 0
   ·have d1:decide ((L.getD k ([],[])).1.getD c 0<0)=false:=decide_eq_false (by omega);rw[d1];simp(disch:=omega)only[em,qe6,ja,q8u,qo5,rs];rw[al];rfl
   ·have d1:decide ((L.getD k ([],[])).1.getD c 0<0)=true:=decide_eq_true (by omega);rw[d1]at hlen2⊢;simp only[Bool.and_self,cond_true]at hlen2⊢;unfold qxa at hlen2⊢;have s1:qgw (0-(L.getD k ([],[])).1.getD c 0) (L.getD i ([],[])).1 ((L.getD i ([],[])).1.getD c 0) (L.getD k ([],[])).1=some (qwf c (L.getD i ([],[])) (L.getD k ([],[]))).1:=by
     rw[Int.zero_sub];exact ju0 _ _ _ _ (by omega) (by omega) (fun j=>by have:=bp2 j;have:=bq2 j;omega) (by omega) (by omega)
    have s2:qgw (0-(L.getD k ([],[])).1.getD c 0) (L.getD i ([],[])).2 ((L.getD i ([],[])).1.getD c 0) (L.getD k ([],[])).2=some (qwf c (L.getD i ([],[])) (L.getD k ([],[]))).2:=by
     rw[Int.zero_sub];exact ju0 _ _ _ _ (by omega) (by omega) (fun j=>by have:=bp1 j;have:=bq1 j;omega) (by omega) (by omega)
    have r1:(qwf c (L.getD i ([],[])) (L.getD k ([],[]))).1.length=(L.getD i ([],[])).1.length:=qyz _ _ _ _;have r2:(qwf c (L.getD i ([],[])) (L.getD k ([],[]))).2.length=(L.getD i ([],[])).2.length:=qyz _ _ _ _;have s3:=jvf (n:=n) (by omega) (tS n c L (L.getD i ([],[])) S k) (fun r hr=>(hall r hr).len) (by omega) (qwf c (L.getD i ([],[])) (L.getD k ([],[]))) (by omega) (by omega)
     (jti (by omega) hpc bp2 bq2) (jti (by omega) hpc (fun j=>by have:=bp1 j;omega) (fun j=>by have:=bq1 j;omega))
    simp(disch:=omega)only[em,qe6,ja,q8u,qo5,s1,s2,s3,rs];rw[al]
 ·simp(disch:=omega)only[em,rs]
abbrev wS(n c:Nat)(L:List b9)(i:Nat):List b9:=(L.take i).foldl (fun S p=>L.foldl (qz8 n c p) S) (L.foldl (q10 n c) [])
include hA hL hc hn hm hR in
theorem j0n:qby (c:Int) (L.length:Int) (lfE L) (ta L) (0,lfE (L.foldl (q10 n c) []),ta (L.foldl (q10 n c) []))=some (.inl (lfE (qq8 n c L),ta (qq8 n c L))):=by
 have e:qq8 n c L=wS n c L L.length:=by unfold wS qq8;rw[List.take_length]
 have hll:=qyo hL hn;rw[e];refine ct (fun i:Nat=>((i:Int),lfE (wS n c L i),ta (wS n c L i))) L.length (bw (by omega)) _ (fun i hi=> ?_) ?_ _ rfl
 ·have hI:=q67 hL hc (L.take i) (fun r hr=>List.mem_of_mem_take hr) _ _ (q9f hL hc L fun _ h=>h);have h1:=j0m hA hL hc hn hm hR i hi (wS n c L i) hI (L.length:Int);have e2:wS n c L (i+1)=L.foldl (qz8 n c (L.getD i ([],[]))) (wS n c L i):=q1k (fun S p=>L.foldl (qz8 n c p) S) _ _ _ _ hi;rw[e2];simp(disch:=omega)only[jq,qe6,h1,rs];rw[al]
 ·simp(disch:=omega)only[jq,rs]
include hA hL hc hn hm hR in
theorem jv4:oj (c:Int) (lfE L) (ta L)=some (true,lfE (qq8 n c L),ta (qq8 n c L)):=by
 unfold oj;rw[qe6,j0l hA hL hc hn hm hR,bi,zk,j0n hA hL hc hn hm hR];rfl
end
def jaz(l:List Int):Bool:=l.any fun k=>decide (1048576<k)
def jgq(d:Rw):Rw×Int:=bif decide (1000<d.length)then([],5)else bif (srt d).any jaz then([],6)else(srt d,0)
theorem jz6(l:List Int)(hl:l.length≤1000000):d9 l=some (jaz l):=by
 have hL:pf l (l.length:Int) 0=some (jfh (fun i=>(i:Int)) (me (fun k=>decide (1048576<k)) l)):=by
  refine ya l 0 (fun k=>decide (1048576<k)) (fun i=>(i:Int)) (by omega) (fun i hi=> ?_) ?_
  ·simp(disch:=omega)only[eh,qgt,rs];rw[al];cases decide (1048576<l.getD i 0)<;>rfl
  ·simp(disch:=omega)only[eh,rs]
 unfold d9 jh jaz;rw[hL,bi,qnq,bi,qnp]
theorem jxd(lf d:Rw)(hs:∀x∈d,x.length≤1000000)(hl:d.length<20000):tj lf d=some (.inr (jgq d)):=by
 have e1:jw d=_:=jxf (by omega);have hp:=qhx d;have hlen:(srt d).length=d.length:=hp.length_eq;have e2:qrl (srt d) (srt d) ((srt d).length:Int) 0=some (bif (srt d).any jaz then .inr ([],6)else .inl ()):=by
  refine qv0 (srt d) [] jaz ([],6) (by omega) (fun i hi=> ?_) ?_
  ·have hb:=jz6 ((srt d).getD i []) (hs _ (hp.mem_iff.1 (ba [] hi)));simp(disch:=omega)only[wl,hb,rs];rw[al];cases jaz ((srt d).getD i [])<;>rfl
  ·simp(disch:=omega)only[wl,rs]
 unfold tj qe5 jgq;rw[e1,bi,qir (decide_eq_true hlen),hlen,←hlen,e2,hlen];have e3:decide ((1000:Int)<(d.length:Int))=decide (1000<d.length):=decide_eq_decide.2 (by omega);rw[e3];cases decide (1000<d.length)<;>cases(srt d).any jaz<;>rfl
def qlt(n m:Nat)(A:Nat→Nat→Int):Rw:=bg n fun p=>bg m fun j=>A p j
theorem qlu(n m:Nat)(A:Nat→Nat→Int):(qlt n m A).length=n:=om _ _
theorem jjm{n m:Nat}{A:Nat→Nat→Int}{i:Nat}(hi:i<n):(qlt n m A).getD i []=bg m fun j=>A i j:=wa hi
theorem ju5{n i:Nat}:(List.replicate n (0:Int)).set i 1=qce n i:=by
 rw[jor,qto];rfl
theorem jpr(m:Nat):wv 0 m []=[]:=by
 induction m with
 |zero=>rfl
 |succ m ih=>
  unfold wv at ih⊢;rw[List.range_succ,List.foldl_append,ih];rfl
section
variable {n m : Nat} {A : Nat → Nat → Int} (hA : ∀ i j, -1 ≤ A i j ∧ A i j ≤ 1) (hn : n ≤ 14) (hm : m ≤ 14) (hs : m ≤ 12 ∨ n ≤ 12)
include hn hm in
theorem jwp:qrj (qlt n m A) (qlt n m A) ((qlt n m A).length:Int) (0,[],[])=some (.inl (lfE (si n m A),ta (si n m A))):=by
 refine ct (fun i:Nat=>((i:Int),lfE (bg i fun p=>(bg m fun j=>A p j,qce n p)),ta (bg i fun p=>(bg m fun j=>A p j,qce n p)))) n (bw (by omega)) _ (fun i hi=> ?_) ?_ _ rfl
 ·have hc:=lz (bg m fun j=>A i j) (by rw[om];omega);rw[qz5,←q8t,←q8y];simp(disch:=omega)only[wi,qlu,jjm hi,hc,qe6,ja,om,List.length_replicate,ju5,rs];rw[al]
 ·simp(disch:=omega)only[wi,qlu,rs];rfl
include hA hn hm hs in
theorem jwq:qrk (m:Int) (0,lfE (si n m A),ta (si n m A))=some (.inl (lfE (wv n m (si n m A)),ta (wv n m (si n m A)))):=by
 refine ct (fun c:Nat=>((c:Int),lfE (wv n c (si n m A)),ta (wv n c (si n m A)))) m (bw (by omega)) _ (fun c hc=> ?_) ?_ _ rfl
 ·have hG:=qm2 (qwk n m A) c (by omega);have h1:=jv4 hA hG hc hn (by omega) (by omega);have e:wv n (c+1) (si n m A)=qq8 n c (wv n c (si n m A)):=by
   unfold wv;rw[List.range_succ,List.foldl_append];rfl
  rw[e];simp(disch:=omega)only[wj,h1,Bool.not_true,rs];rw[al]
 ·simp(disch:=omega)only[wj,rs]
theorem q6v{L:List b9}{x:List Int}:x∈ta L↔∃r∈L,r.2=x:=List.mem_map
include hA hn hm hs in
theorem jlq:qf3 (qlt n m A)=some (jgq (ta (wv n m (si n m A)))):=by
 have hG:=qm2 (qwk n m A) m (Nat.le_refl _);have hlen:=qyo hG hn;have e3:tj (lfE (wv n m (si n m A))) (ta (wv n m (si n m A)))=_:=jxd _ _ (fun x hx=>by
  obtain⟨r,hr,rfl⟩:=q6v.1 hx;have:=(hG.row r hr).len;omega) (by rw[ja];omega)
 have e0:=jwp (A:=A) hn hm;have e1:=jwq hA hn hm hs;unfold qf3;rw[e0,bi,zk];by_cases h0:0<n
 ·have h00:(qlt n m A).getD 0 []=bg m fun j=>A 0 j:=jjm h0
  simp(disch:=omega)only[qlu,h00,om,e1,e3,rs]
 ·obtain rfl:n=0:=by omega
  have es:si 0 m A=[]:=rfl;rw[es,jpr]at e3⊢;simp(disch:=omega)only[qlu,e3,rs]
end
def AP(n:b8)(p j:Nat):Int:=jio (n.2.1.getD j ah.z) (p:Int)
section
variable {n : b8} (h : Small n) (hN : n.1 ≤ 40)
include h in
theorem j25(p:Nat)(a b:Int)(n1 n2 n3:Int)(M:Rw):qum (p:Int) a b n.2.1 (n.2.1.length:Int) n1 n.2.1 n2 n3 M (0,[])=some (.inl (bg n.2.1.length fun j=>AP n p j)):=by
 have hl:=h.trans;refine ct (fun i:Nat=>((i:Int),bg i fun j=>AP n p j)) n.2.1.length (bw (by omega)) _ (fun i hi=> ?_) ?_ _ rfl
 ·have ht:=ba ah.z hi;have h1:=h.ins _ ht;have h2:=h.outs _ ht;have e:=jpd (n.2.1.getD i ah.z) (p:Int) (by omega) (by omega);rw[qz5];simp(disch:=omega)only[y9,e,om,rs];rw[al];rfl
 ·simp(disch:=omega)only[y9,rs]
include h in
theorem j26(N:Nat)(hN:N≤40)(n1 n2 n3:Int):qjm (N:Int) n1 n.2.1 n2 n3 (0,[])=some (.inl (qlt N n.2.1.length (AP n))):=by
 refine ct (fun i:Nat=>((i:Int),qlt i n.2.1.length (AP n))) N (bw (by omega)) _ (fun i hi=> ?_) ?_ _ rfl
 ·have e:=j25 h i (N:Int) (i:Int) n1 n2 n3 (qlt i n.2.1.length (AP n));have e2:qlt (i+1) n.2.1.length (AP n)=qlt i n.2.1.length (AP n)++[bg n.2.1.length fun j=>AP n i j]:=qz5 _ _;rw[e2];simp(disch:=omega)only[za,e,qlu,rs];rw[al]
 ·simp(disch:=omega)only[za,rs]
include h in
end
def plE(n:b8):List b9:=wv n.1.toNat n.2.1.length (si n.1.toNat n.2.1.length (AP n))
def qnr(n:b8):Bool:=decide (20<n.1)||decide (20<n.2.1.length)
def ue(n:b8):Rw×Int:=bif !dp n then([],1)else bif qnr n then([],5)else jgq (ta (plE n))
def jo0(n:b8):Prop:=(n.1≤12∧n.2.1.length≤14)∨20<n.1∨20<n.2.1.length
theorem jtg(n:b8):qna n=some (qnr n):=by
 unfold qna qnr;have e:decide ((20:Int)<(n.2.1.length:Int))=decide (20<n.2.1.length):=decide_eq_decide.2 (by omega);rw[e];cases decide (20<n.1)<;>rfl
theorem q3h{n:b8}(hv:dp n=true):1≤n.1∧n.1≤40∧n.2.1.length≤60:=by
 unfold dp at hv;simp only[Bool.and_eq_true,decide_eq_true_eq]at hv;omega
theorem jcy{n:b8}(hf:jo0 n)(hl:qnr n=false):n.1≤12∧n.2.1.length≤14:=by
 unfold qnr at hl;simp only[Bool.or_eq_false_iff,decide_eq_false_iff_not]at hl;unfold jo0 at hf;omega
theorem jo2{n:b8}(h:Small n)(hf:jo0 n):qit n=some (ue n):=by
 unfold qit ue;rw[jha h,jtg];cases hv:dp n with
 |false=>rfl
 |true=>
  cases hl:qnr n with
  |true=>rfl
  |false=>
   obtain⟨v1,v2,v3⟩:=q3h hv;obtain⟨f1,f2⟩:=jcy hf hl;have e:n.1=(n.1.toNat:Int):=by omega
   have e1:qjm n.1 n.1 n.2.1 n.2.2.1 n.2.2.2.1 (0,[])=some (.inl (qlt n.1.toNat n.2.1.length (AP n))):=by
    conv=>lhs;arg 1;rw[e]
    exact j26 h n.1.toNat (by omega) n.1 n.2.2.1 n.2.2.2.1
   have e2:=jlq (n:=n.1.toNat) (m:=n.2.1.length) (A:=AP n) (fun i j=>jwc _ _) (by omega) (by omega) (by omega);simp only[bi,Bool.not_true,cond_false,e1,zk,e2];rfl
def LeL(a b:List Int):Prop:=ltL b a=false
theorem jjg{n:b8}(h:1≤n.1):GoodE n.1.toNat n.2.1.length n.2.1.length (AP n) (plE n):=qm2 (qwk _ _ _) _ (Nat.le_refl _)
structure OutOK (n : Nat) (r : Rw × Int) : Prop where
 len : r.1.length ≤ 1000
 row : ∀ x ∈ r.1, x.length = n ∧ ∀ i, 0 ≤ x.getD i 0 ∧ x.getD i 0 ≤ 1048576
 err : r.2 ≠ 0 → r.1 = []
theorem jw1{n m c:Nat}{A:Nat→Nat→Int}{L:List b9}(hG:GoodE n m c A L):OutOK n (jgq (ta L)):=by
 unfold jgq;cases h1:decide (1000<(ta L).length)with
 |true=>exact⟨Nat.zero_le _,fun x hx=>by simp at hx,fun _=>rfl⟩
 |false=>
  have hl:=of_decide_eq_false h1;have hp:=qhx (ta L);cases h2:(srt (ta L)).any jaz with
  |true=>exact⟨Nat.zero_le _,fun x hx=>by simp at hx,fun _=>rfl⟩
  |false=>
   refine⟨by show(srt (ta L)).length≤1000;rw[hp.length_eq];omega,fun x hx=> ?_,fun h=>absurd rfl h⟩;have hx:x∈srt (ta L):=hx;obtain⟨r,hr,rfl⟩:=q6v.1 (hp.mem_iff.1 hx);have ho:=hG.row r hr;refine⟨ho.len,fun i=> ?_⟩;by_cases hi:i<r.2.length
   ·refine⟨ho.sol.1 i (by rw[←ho.len];exact hi),?_⟩;have:=List.any_eq_false.1 h2 r.2 hx;unfold jaz at this;rw[Bool.not_eq_true,List.any_eq_false]at this;have:=this _ (ba 0 hi);simpa using this
   ·rw[List.getD_eq_getElem?_getD,List.getElem?_eq_none (by omega)];exact⟨Int.le_refl _,by show(0:Int)≤1048576;omega⟩
theorem jwy{n:b8}:OutOK n.1.toNat (ue n):=by
 unfold ue;cases hv:dp n with
 |false=>exact⟨Nat.zero_le _,fun x hx=>by simp at hx,fun _=>rfl⟩
 |true=>
  cases qnr n with
  |true=>exact⟨Nat.zero_le _,fun x hx=>by simp at hx,fun _=>rfl⟩
  |false=>exact jw1 (jjg (q3h hv).1)
theorem jqj{n:b8}(hf:jo0 n)(h:(ue n).2=0):dp n=true∧qnr n=false∧1≤n.1∧n.1≤12∧n.2.1.length≤14:=by
 unfold ue at h;cases hv:dp n with
 |false=>rw[hv]at h;exact absurd (show(1:Int)=0 from h) (by decide)
 |true=>
  cases hl:qnr n with
  |true=>rw[hv,hl]at h;exact absurd (show(5:Int)=0 from h) (by decide)
  |false=>
   have:=jcy hf hl;exact⟨rfl,rfl,(q3h hv).1,this.1,this.2⟩
structure Mins (n c : Nat) (A : Nat → Nat → Int) (d : Rw) : Prop where
 len : ∀ x ∈ d, x.length = n
 min : ∀ x ∈ d, qts n c A (fn x)
 prim : ∀ x ∈ d, qtt n (fn x)
 cov : ∀ y, qts n c A y → qtt n y → ∃ x ∈ d, EqN n (fn x) y
 pw : d.Pairwise fun x y => ¬ Sup n (fn x) (fn y) ∧ ¬ Sup n (fn y) (fn x)
 srt : d.Pairwise LeL
theorem jqn{n m c:Nat}{A:Nat→Nat→Int}{L:List b9}(hG:GoodE n m c A L)(h:(jgq (ta L)).2=0):Mins n c A (jgq (ta L)).1:=by
 unfold jgq at h⊢;cases h1:decide (1000<(ta L).length)with
 |true=>rw[h1]at h;exact absurd (show(5:Int)=0 from h) (by decide)
 |false=>
  rw[h1]at h;have hp:=qhx (ta L);cases h2:(srt (ta L)).any jaz with
  |true=>rw[h2]at h;exact absurd (show(6:Int)=0 from h) (by decide)
  |false=>
   have hm:∀x,x∈srt (ta L)→∃r∈L,r.2=x:=fun x hx=>by
    obtain⟨r,hr,e⟩:=q6v.1 (hp.mem_iff.1 hx);exact⟨r,hr,e⟩
   refine⟨fun x hx=> ?_,fun x hx=> ?_,fun x hx=> ?_,fun y hy hP=> ?_,?_,qwj _⟩
   ·obtain⟨r,hr,rfl⟩:=hm x hx;exact(hG.row r hr).len
   ·obtain⟨r,hr,rfl⟩:=hm x hx;exact hG.min r hr
   ·obtain⟨r,hr,rfl⟩:=hm x hx;exact(hG.row r hr).prim
   ·obtain⟨r,hr,he⟩:=hG.cov y hy hP;exact⟨r.2,hp.mem_iff.2 (q6v.2 ⟨r,hr,rfl⟩),he⟩
   ·refine(hp.symm.pairwise_iff (fun h=>⟨h.2,h.1⟩)).1 ?_;unfold ta;rw[List.pairwise_map];exact hG.pw
theorem jqi{n:b8}(hf:jo0 n)(h:(ue n).2=0):Mins n.1.toNat n.2.1.length (AP n) (ue n).1:=by
 obtain⟨hv,hl,h1,h2,h3⟩:=jqj hf h;unfold ue at h⊢;rw[hv,hl]at h⊢;exact jqn (jjg h1) h
end Go.Proofs.YtemahcdcacmgdaaGreatDoor
