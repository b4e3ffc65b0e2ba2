/-
  Linear programs: Check, Solve, Bound.
-/
import Derived.Test.YteljgpepodpebaaGreatZ3FD
set_option linter.all false
namespace Go.Proofs.YteljgpepodpebaaGreat
open Go.K Go.M
theorem q0j{b:Bool}{F:Option Bool}{P:Prop}(h:b=true→∃c,F=some c∧(c=true→P)):∃c,(bif !b then some false else F)=some c∧(c=true→P):=by
 cases b with
 |true=>exact h rfl
 |false=>exact⟨_,rfl,fun h=>by cases h⟩
theorem qma{b:Bool}{F:Option Bool}{P:Prop}(h:b=true→∃c,F=some c∧(c=true→P)):∃c,(bif b then F else some false)=some c∧(c=true→P):=by
 cases b with
 |true=>exact h rfl
 |false=>exact⟨_,rfl,fun h=>by cases h⟩
theorem q9p{b:Bool}{F:Option Bool}{P:Prop}(h:b=false→∃c,F=some c∧(c=true→P)):∃c,(bif b then some false else F)=some c∧(c=true→P):=by
 cases b with
 |false=>exact h rfl
 |true=>exact⟨_,rfl,fun h=>by cases h⟩
structure YOK (p : Program) (y most : List ab) : Prop where
 fine : fj y (p.2.1.length : Int) = some true
 signed : l8 p y = some true
 under : lw p y most = some (true, 0)
 len : y.length = p.2.1.length
 nf : y.all vB = true
 sg : ∀ i, i < p.2.1.length → q1c p.2.2.1 y i
 ud : ∀ j, j < p.1.length → jkp p y most j
 dot : (qc p.2.2.2.1 y).2 = 0
def CK(p:Program)(s:de):Prop:=
 (s.1=1∧YOK p s.2.2.1 p.1∧s.2.2.2.2.1=(qc p.2.2.2.1 s.2.2.1).1)∨
 (s.1=2∧YOK p s.2.2.1 (List.replicate p.1.length (0,1,()))∧0<(qc p.2.2.2.1 s.2.2.1).1.1)∨
 (s.1=3∧(s.2.2.2.1.length=p.1.length∧∀j,j<p.1.length→¬(gz s.2.2.2.1 j).1<0)∧(qc p.1 s.2.2.2.1).2=0∧(qc p.1 s.2.2.2.1).1.1<0)
theorem q06{p:Program}{x:List ab}(h:VP p)(hx:x.length≤1000):∃b,ny p x=some b:=by
 have h2:=h.n1;have h3:=h.m1;have h4:=h.rl;have h5:=h.bl;unfold ny;rw[td _ _ (by omega),af];cases hf:decide ((x.length:Int)=p.1.length)&&x.all vB with
 |false=>exact⟨_,rfl⟩
 |true=>
  obtain⟨r,hr,-⟩:=joz (p:=p) (x:=x) (b:=p.2.2.2.1) hx (fun i hi=>by rw[h.al i hi];omega) (by omega) (by omega) (by omega);simp only[Bool.not_true,cond_false];rw[hr,af];cases r.1<;>exact⟨_,rfl⟩
theorem jeq{a b:ab}(h:(decide (a.1=b.1)&&(decide (a.2.1=b.2.1)&&true))=true):a=b:=by
 obtain⟨a,a',u⟩:=a;obtain⟨b,b',v⟩:=b;simp at h;rw[h.1,h.2]
theorem jm2{p:Program}{s:de}(h:VP p)(hr:∀i,i<p.2.1.length→gb p.2.2.1 i=1∨gb p.2.2.1 i=2∨gb p.2.2.1 i=3)(hs:SL s):∃b,p9 p s=some b∧(b=true→CK p s):=by
 have h2:=h.n1;have h3:=h.m1;have h4:=h.rl;have h5:=h.bl;obtain⟨s1,s2,s3⟩:=hs;have ydot:∀{y:List ab} {most:List ab},y.length=p.2.1.length→p.1.length≤most.length→∃r,lw p y most=some r∧(r.1=true→r.2=0∧∀j,j<p.1.length→jkp p y most j):=fun hy hm=>
  jqd (by omega) (by omega) h.al (by omega) hm
 unfold p9;rw[q26 h hr,af];refine q0j fun _=> ?_
 by_cases k1:s.1=1
 ·rw[bu k1];obtain⟨b1,e1⟩:=q06 h s1;rw[e1,af];refine q0j fun _=> ?_
  rw[td _ _ (by omega),af];refine q0j fun g2=> ?_
  rw[Bool.and_eq_true,decide_eq_true_iff]at g2;have hy:s.2.2.1.length=p.2.1.length:=by omega
  obtain⟨b3,e3,g3⟩:=jaq (p:=p) (y:=s.2.2.1) (by omega) s2;rw[e3,af];refine q0j fun t3=>q9p fun _=> ?_
  obtain⟨r,e4,g4⟩:=ydot (y:=s.2.2.1) (most:=p.1) hy (Nat.le_refl _);rw[e4,af,qe1 (by omega) (by omega),af,qe1 (by omega) (by omega),af];refine qma fun t4=>qma fun t5=>qma fun _=>qma fun t6=>qma fun t7=>⟨_,rfl,fun t8=> .inl ⟨k1,?_,?_⟩⟩
  ·refine⟨?_,by rw[e3,t3],?_,hy,g2.2,fun i hi=>(g3.1 t3) i (by omega),(g4 t4).2,of_decide_eq_true t6⟩
   ·rw[td _ _ (by omega),g2.2,decide_eq_true g2.1];rfl
   ·rw[e4];have e:r=(true,0):=Prod.ext t4 (g4 t4).1;rw[e]
  ·rw[jeq t8,jeq t7]
 ·rw[bg k1];by_cases k2:s.1=2
  ·rw[bu k2];refine q9p fun _=>q9p fun _=>q9p fun _=> ?_
   rw[td _ _ (by omega),af];refine q0j fun g2=> ?_
   rw[Bool.and_eq_true,decide_eq_true_iff]at g2;have hy:s.2.2.1.length=p.2.1.length:=by omega
   obtain⟨b3,e3,g3⟩:=jaq (p:=p) (y:=s.2.2.1) (by omega) s2;rw[e3,af];refine q0j fun t3=> ?_
   obtain⟨r,e4,g4⟩:=ydot (y:=s.2.2.1) (most:=List.replicate p.1.length (0,1,())) hy (by rw[List.length_replicate];omega);rw[qgi (by omega),af,e4,af,qe1 (by omega) (by omega),af];refine qma fun t4=>qma fun t5=>qma fun t6=>⟨_,rfl,fun t8=> .inr (.inl ⟨k2,?_,of_decide_eq_true t8⟩)⟩
   refine⟨?_,by rw[e3,t3],?_,hy,g2.2,fun i hi=>(g3.1 t3) i (by omega),(g4 t4).2,of_decide_eq_true t6⟩
   ·rw[td _ _ (by omega),g2.2,decide_eq_true g2.1];rfl
   ·rw[e4];have e:r=(true,0):=Prod.ext t4 (g4 t4).1;rw[e]
  ·rw[bg k2];refine qma fun k3=> ?_
   refine q9p fun _=>q9p fun _=> ?_
   obtain⟨b1,e1⟩:=q06 h s1;rw[e1,af];refine q0j fun _=> ?_
   rw[td _ _ (by omega),af];refine q0j fun g2=> ?_
   rw[Bool.and_eq_true,decide_eq_true_iff]at g2;obtain⟨r,e2,g3⟩:=joz (p:=p) (x:=s.2.2.2.1) (b:=List.replicate p.2.1.length (0,1,())) s3 (fun i hi=>by rw[h.al i hi];omega) (by omega) (by omega) (by rw[List.length_replicate];omega);rw[qgi (by omega),af,e2,af,qe1 (by omega) (by omega),af];refine qma fun t4=>qma fun t5=>qma fun t6=>⟨_,rfl,fun t8=> .inr (.inr ⟨of_decide_eq_true k3,⟨by omega,fun j hj=>g3 t4 j (by omega)⟩,of_decide_eq_true t6,of_decide_eq_true t8⟩)⟩
theorem jdw{p:Program}(h:VP p)(hr:∀i,i<p.2.1.length→gb p.2.2.1 i=1∨gb p.2.2.1 i=2∨gb p.2.2.1 i=3):∃s x,vj p=some (s,x)∧SL s∧((x=0∧p9 p s=some true∧CK p s)∨x=6):=by
 obtain⟨s,x,e1,g1⟩:=jmm h;obtain⟨b,e2,g2⟩:=jm2 h hr g1;unfold vj;rw[q26 h hr,af];simp only[Bool.not_true,cond_false];rw[e1,af];by_cases hx:x=0
 ·rw[cm hx,e2,af];cases b with
  |true=>exact⟨_,_,rfl,g1, .inl ⟨rfl,e2,g2 rfl⟩⟩
  |false=>exact⟨_,_,rfl,SL0, .inr rfl⟩
 ·rw[gn hx];exact⟨_,_,rfl,SL0, .inr rfl⟩
theorem jm1{p:Program}{y:List ab}(h:VP p)(hr:∀i,i<p.2.1.length→gb p.2.2.1 i=1∨gb p.2.2.1 i=2∨gb p.2.2.1 i=3)(hy:YOK p y p.1):qb8 p y=some ((qc p.2.2.2.1 y).1,0):=by
 have h3:=h.m1;have h5:=h.bl;have h6:=hy.len;unfold qb8;rw[q26 h hr,af,hy.fine,af,hy.signed,af,hy.under,af];simp only[Bool.not_true,cond_false];rw[qe1 (by omega) (by omega),af,hy.dot];rfl
theorem qz2{f g:Nat→Rat}:∀{n:Nat},(∀i,i<n→f i≤g i)→d4 n f≤d4 n g
 |0,_=>Rat.le_refl
 |n+1,h=>by
  have h1:=qz2 (n:=n) fun i hi=>h i (by omega)
  have h2:=h n (by omega);show d4 n f+f n≤d4 n g+g n
  grind
theorem qw2(a:Rat)(f:Nat→Rat)(n:Nat):d4 n (fun j=>f j*a)=d4 n f*a:=by
 rw[Rat.mul_comm,←qho];exact cp fun j _=>Rat.mul_comm _ _
theorem ju7{p:Program}{y most:List ab}{j:Nat}(h:jkp p y most j)(hm:NF (gz most j)):d4 p.2.1.length (fun i=>fv (gz (ci p.2.1 i) j)*fv (gz y i))≤fv (gz most j):=by
 obtain⟨h1,h2⟩:=h;have h3:=qum h1;rw[db]at h3;have h4:=jmn h3.2.2.2.1 hm h2;rw[h3.2.2.2.2]at h4;have e:d4 p.2.1.length (fun i=>fv (gz (ci p.2.1 i) j)*fv (gz y i))=d4 p.2.1.length (fun i=>fv ((be p.2.1.length fun i=>gz (ci p.2.1 i) j).getD i ab.z)*fv (y.getD i ab.z)):=cp fun i hi=>by rw[em hi]
 rw[e];exact h4
theorem jq4{p:Program}{y:List ab}{x:Nat→Rat}(w:Nat→Rat)
  (hw:∀j,j<p.1.length→d4 p.2.1.length (fun i=>fv (gz (ci p.2.1 i) j)*fv (gz y i))≤w j)
  (hx:∀j,j<p.1.length→0≤x j)
  (hg:∀i,i<p.2.1.length→(gb p.2.2.1 i=1∧d4 p.1.length (fun j=>fv (gz (ci p.2.1 i) j)*x j)≤fv (gz p.2.2.2.1 i)∧fv (gz y i)≤0)∨(gb p.2.2.1 i=2∧fv (gz p.2.2.2.1 i)≤d4 p.1.length (fun j=>fv (gz (ci p.2.1 i) j)*x j)∧0≤fv (gz y i))):
  d4 p.2.1.length (fun i=>fv (gz p.2.2.2.1 i)*fv (gz y i))≤d4 p.1.length (fun j=>w j*x j):=by
 have h1:d4 p.2.1.length (fun i=>fv (gz p.2.2.2.1 i)*fv (gz y i))≤d4 p.2.1.length (fun i=>d4 p.1.length (fun j=>fv (gz (ci p.2.1 i) j)*x j)*fv (gz y i)):=by
  refine qz2 fun i hi=> ?_
  rcases hg i hi with⟨-,a,b⟩|⟨-,a,b⟩
  ·have:=Rat.mul_le_mul_of_nonneg_right a (c:= -fv (gz y i)) (by grind)
   grind
  ·exact Rat.mul_le_mul_of_nonneg_right a b
 refine Rat.le_trans h1 ?_;have h2:d4 p.2.1.length (fun i=>d4 p.1.length (fun j=>fv (gz (ci p.2.1 i) j)*x j)*fv (gz y i))=d4 p.1.length (fun j=>d4 p.2.1.length (fun i=>fv (gz (ci p.2.1 i) j)*fv (gz y i))*x j):=by
  have e1:∀i,d4 p.1.length (fun j=>fv (gz (ci p.2.1 i) j)*x j)*fv (gz y i)=d4 p.1.length (fun j=>fv (gz (ci p.2.1 i) j)*x j*fv (gz y i)):=fun i=>(qw2 _ _ _).symm
  rw[cp fun i _=>e1 i,qw3];exact cp fun j _=>by
   rw[←qw2];exact cp fun i _=>by grind
 rw[h2];exact qz2 fun j hj=>Rat.mul_le_mul_of_nonneg_right (hw j hj) (hx j hj)
end Go.Proofs.YteljgpepodpebaaGreat
