/-
  Solutions of least support of homogeneous equations: what elimination keeps. No program is named.
-/
import Derived.Test.YtemahcdcacmgdaaGreatDoorZ3X2
set_option linter.all false
namespace Go.M
open Go.K
def Sol(n c:Nat)(A:Nat→Nat→Int)(y:Nat→Int):Prop:=(∀i,i<n→0≤y i)∧∀j,j<c→au (fun i=>y i*A i j) n=0
def NZ(n:Nat)(y:Nat→Int):Prop:=∃i,i<n∧y i≠0
def Sup(n:Nat)(y z:Nat→Int):Prop:=∀i,i<n→y i≠0→z i≠0
def qts(n c:Nat)(A:Nat→Nat→Int)(y:Nat→Int):Prop:=Sol n c A y∧NZ n y∧∀z,Sol n c A z→NZ n z→Sup n z y→Sup n y z
def EqN(n:Nat)(y z:Nat→Int):Prop:=∀i,i<n→y i=z i
def jcg(y:Nat→Int):Nat→Nat
 |0=>0
 |n+1=>jcg y n+if y n=0 then 0 else 1
theorem Sup.trans{n:Nat}{x y z:Nat→Int}(h1:Sup n x y)(h2:Sup n y z):Sup n x z:=fun i hi h=>h2 i hi (h1 i hi h)
theorem Sup.refl(n:Nat)(x:Nat→Int):Sup n x x:=fun _ _ h=>h
theorem jon{y z:Nat→Int}:∀{n:Nat},Sup n y z→jcg y n≤jcg z n
 |0,_=>Nat.le_refl _
 |n+1,h=>by
  have h1:=jon (n:=n) fun i hi=>h i (by omega)
  have h2:=h n (by omega);simp only[jcg];by_cases e:y n=0
  ·rw[if_pos e];split<;>omega
  ·rw[if_neg e,if_neg (h2 e)];omega
theorem qtn{y z:Nat→Int}:∀{n:Nat},Sup n y z→∀i,i<n→y i=0→z i≠0→jcg y n<jcg z n
 |0,_,i,hi,_,_=>by omega
 |n+1,h,i,hi,hy,hz=>by
  have h2:=h n (by omega);simp only[jcg];by_cases e:i=n
  ·subst e;have h1:=jon (n:=i) fun i hi=>h i (by omega)
   rw[if_pos hy,if_neg hz];omega
  ·have h1:=qtn (n:=n) (fun i hi=>h i (by omega)) i (by omega) hy hz;by_cases e:y n=0
   ·rw[if_pos e];split<;>omega
   ·rw[if_neg e,if_neg (h2 e)];omega
theorem jub(y z:Nat→Int):∀n,(∃i,i<n∧0<y i)→∃i,i<n∧0<y i∧∀j,j<n→0<y j→z i*y j≤z j*y i
 |0,⟨i,hi,_⟩=>by omega
 |n+1,⟨i,hi,hy⟩=>by
  by_cases hn:∃i,i<n∧0<y i
  ·obtain⟨k,hk,hk0,hm⟩:=jub y z n hn;by_cases h1:0<y n∧z n*y k<z k*y n
   ·refine⟨n,by omega,h1.1,fun j hj hj0=> ?_⟩;by_cases e:j=n
    ·subst e;exact Int.le_refl _
    ·have h2:=hm j (by omega) hj0;have a1:z n*y k*y j≤z k*y n*y j:=Int.mul_le_mul_of_nonneg_right (by omega) (by omega);have a2:z k*y j*y n≤z j*y k*y n:=Int.mul_le_mul_of_nonneg_right h2 (by omega);have e1:z n*y k*y j=z n*y j*y k:=by rw[Int.mul_assoc,Int.mul_comm (y k),←Int.mul_assoc]
     have e2:z k*y n*y j=z k*y j*y n:=by rw[Int.mul_assoc,Int.mul_comm (y n),←Int.mul_assoc]
     have e3:z j*y k*y n=z j*y n*y k:=by rw[Int.mul_assoc,Int.mul_comm (y k),←Int.mul_assoc]
     rw[e1,e2]at a1;rw[e3]at a2;exact Int.le_of_mul_le_mul_right (Int.le_trans a1 a2) hk0
   ·refine⟨k,by omega,hk0,fun j hj hj0=> ?_⟩;by_cases e:j=n
    ·subst e;by_cases h2:z j*y k<z k*y j
     ·exact absurd ⟨hj0,h2⟩ h1
     ·omega
    ·exact hm j (by omega) hj0
  ·have e:i=n:=by
    by_cases e:i=n
    ·exact e
    ·exact absurd ⟨i,by omega,hy⟩ hn
   subst e;refine⟨i,by omega,hy,fun j hj hj0=> ?_⟩;by_cases e:j=i
   ·subst e;exact Int.le_refl _
   ·exact absurd ⟨j,by omega,hj0⟩ hn
theorem jey(n:Nat)(a b:Int)(y z:Nat→Int)(f:Nat→Int):au (fun i=>(a*z i-b*y i)*f i) n=a*au (fun i=>z i*f i) n-b*au (fun i=>y i*f i) n:=by
 rw[←m9,←m9]
 induction n with
 |zero=>rfl
 |succ n ih=>
  simp only[au,ih];rw[Int.sub_mul,Int.mul_assoc,Int.mul_assoc];omega
variable {n c : Nat} {A : Nat → Nat → Int}
theorem juf{y z:Nat→Int}(hy:Sol n c A y)(hn:NZ n y)(hz:Sol n c A z):∃i,i<n∧0<y i∧Sol n c A (fun j=>y i*z j-z i*y j):=by
 have hp:∃i,i<n∧0<y i:=by
  obtain⟨i,hi,h⟩:=hn;have:=hy.1 i hi;exact⟨i,hi,by omega⟩
 obtain⟨i,hi,h0,hm⟩:=jub y z n hp;refine⟨i,hi,h0,fun j hj=> ?_,fun j hj=> ?_⟩
 ·have h1:=hy.1 j hj;have h2:=hz.1 j hj;show 0≤y i*z j-z i*y j;by_cases e:y j=0
  ·rw[e,Int.mul_zero,Int.sub_zero];exact Int.mul_nonneg (by omega) h2
  ·have h3:=hm j hj (by omega);rw[Int.mul_comm (z j)]at h3;omega
 ·rw[jey,hy.2 j hj,hz.2 j hj];simp
theorem jgp{y z:Nat→Int}(h:Sup n y z)(i:Nat):Sup n (fun j=>y i*z j-z i*y j) z:=by
 intro j hj hw hz;have hy:y j=0:=by
  by_cases e:y j=0
  ·exact e
  ·exact absurd hz (h j hj e)
 apply hw;show y i*z j-z i*y j=0;rw[hz,hy];simp
theorem jlp:∀(k:Nat) (z:Nat→Int),jcg z n≤k→Sol n c A z→∀p,p<n→z p≠0→∃y,qts n c A y∧Sup n y z∧y p≠0:=by
 intro k
 induction k with
 |zero=>
  intro z hk hz p hp h;have:=qtn (y:=fun _=>0) (z:=z) (n:=n) (fun i _ h=>absurd rfl h) p hp rfl h;omega
 |succ k ih=>
  intro z hk hz p hp h;by_cases hM:qts n c A z
  ·exact⟨z,hM,Sup.refl n z,h⟩
  ·have:∃y,Sol n c A y∧NZ n y∧Sup n y z∧¬Sup n z y:=by
    apply Classical.byContradiction;intro hne;apply hM;refine⟨hz,⟨p,hp,h⟩,fun y h1 h2 h3=> ?_⟩;apply Classical.byContradiction;intro h4;exact hne ⟨y,h1,h2,h3,h4⟩
   obtain⟨y,h1,h2,h3,h4⟩:=this;have:∃q,q<n∧z q≠0∧y q=0:=by
    apply Classical.byContradiction;intro hne;apply h4;intro q hq hzq hyq;exact hne ⟨q,hq,hzq,hyq⟩
   obtain⟨q,hq,hzq,hyq⟩:=this;by_cases e:y p=0
   ·obtain⟨i,hi,h0,hw⟩:=juf h1 h2 hz;have hs:=jgp h3 i;have hzi:z i≠0:=h3 i hi (by omega);have hlt:=qtn hs i hi (by show y i*z i-z i*y i=0;rw[Int.mul_comm];omega) hzi;have hwp:y i*z p-z i*y p≠0:=by
     rw[e,Int.mul_zero,Int.sub_zero];exact Int.mul_ne_zero (by omega) h
    obtain⟨x,x1,x2,x3⟩:=ih _ (by omega) hw p hp hwp;exact⟨x,x1,x2.trans hs,x3⟩
   ·have hlt:=qtn h3 q hq hyq hzq;obtain⟨x,x1,x2,x3⟩:=ih y (by omega) h1 p hp e;exact⟨x,x1,x2.trans h3,x3⟩
theorem jts{y z:Nat→Int}(hy:qts n c A y)(hz:∀j,j<c→au (fun i=>z i*A i j) n=0)(hs:Sup n z y):∀i j,i<n→j<n→y i*z j=z i*y j:=by
 have main:∀z:Nat→Int,(∀j,j<c→au (fun i=>z i*A i j) n=0)→Sup n z y→(∃i,i<n∧0<z i)→∀i j,i<n→j<n→y i*z j=z i*y j:=by
  intro z hz hs hp;obtain⟨i,hi,h0,hm⟩:=jub z y n hp;have hyi:y i≠0:=hs i hi (by omega);have hyi0:0<y i:=by have:=hy.1.1 i hi;omega
  have hw:Sol n c A (fun j=>z i*y j-y i*z j):=by
   refine⟨fun j hj=> ?_,fun j hj=> ?_⟩
   ·have h1:=hy.1.1 j hj;show 0≤z i*y j-y i*z j;by_cases e:0<z j
    ·have h3:=hm j hj e;rw[Int.mul_comm (y j)]at h3;omega
    ·have a1:0≤z i*y j:=Int.mul_nonneg (by omega) h1;have a2:0≤y i* -z j:=Int.mul_nonneg (by omega) (by omega);rw[Int.mul_neg]at a2;omega
   ·rw[jey,hy.1.2 j hj,hz j hj];simp
  have hws:Sup n (fun j=>z i*y j-y i*z j) y:=jgp hs i;have hw0:∀j,j<n→z i*y j-y i*z j=0:=by
   intro j hj;apply Classical.byContradiction;intro hne;have:=hy.2.2 _ hw ⟨j,hj,hne⟩ hws i hi hyi;apply this;show z i*y i-y i*z i=0;rw[Int.mul_comm];omega
  intro a b ha hb;have ea:=hw0 a ha;have eb:=hw0 b hb;have e1:y i*(y a*z b)=y i*(z a*y b):=by
   rw[Int.mul_left_comm,←Int.mul_assoc (y i)];have:y i*z b=z i*y b:=by omega
   rw[this];have:y i*z a=z i*y a:=by omega
   rw[this,Int.mul_left_comm (y a),←Int.mul_assoc]
  exact Int.eq_of_mul_eq_mul_left (by omega) e1
 by_cases h1:∃i,i<n∧0<z i
 ·exact main z hz hs h1
 ·by_cases h2:∃i,i<n∧0< -z i
  ·have:=main (fun i=> -z i) (fun j hj=>by
    have e:au (fun i=> -z i*A i j) n=au (fun i=>(-1)*(z i*A i j)) n:=bu fun i _=>by rw[←Int.mul_assoc,Int.neg_one_mul]
    rw[e,m9,hz j hj];rfl) (fun i hi h=>hs i hi fun e=>h (by show-z i=0;rw[e];rfl)) h2
   intro i j hi hj;have:=this i j hi hj;simp only[Int.mul_neg,Int.neg_mul]at this;omega
  ·intro i j hi hj;have zi:z i=0:=by
    by_cases a:0<z i
    ·exact absurd ⟨i,hi,a⟩ h1
    ·by_cases b:0< -z i
     ·exact absurd ⟨i,hi,b⟩ h2
     ·omega
   have zj:z j=0:=by
    by_cases a:0<z j
    ·exact absurd ⟨j,hj,a⟩ h1
    ·by_cases b:0< -z j
     ·exact absurd ⟨j,hj,b⟩ h2
     ·omega
   rw[zi,zj];simp
def gN(y:Nat→Int):Nat→Nat
 |0=>0
 |n+1=>Nat.gcd (gN y n) (y n).natAbs
theorem qyn{y z:Nat→Int}:∀{n:Nat},EqN n y z→gN y n=gN z n
 |0,_=>rfl
 |n+1,h=>by rw[gN,gN,qyn fun i hi=>h i (by omega),h n (by omega)]
theorem qnl(y:Nat→Int):∀{n:Nat} (i:Nat),i<n→gN y n ∣ (y i).natAbs
 |0,i,h=>by omega
 |n+1,i,h=>by
  by_cases e:i=n
  ·subst e;exact Nat.gcd_dvd_right _ _
  ·exact Nat.dvd_trans (Nat.gcd_dvd_left _ _) (qnl y i (by omega))
theorem jff{y:Nat→Int}{d:Nat}:∀{n:Nat},(∀i,i<n→d ∣ (y i).natAbs)→d ∣ gN y n
 |0,_=>Nat.dvd_zero _
 |n+1,h=>Nat.dvd_gcd (jff fun i hi=>h i (by omega)) (h n (by omega))
theorem q8k(k:Int)(y:Nat→Int):∀n:Nat,gN (fun i=>k*y i) n=k.natAbs*gN y n
 |0=>rfl
 |n+1=>by rw[gN,gN,q8k k y n,Int.natAbs_mul,Nat.gcd_mul_left]
theorem jnc{y:Nat→Int}{n:Nat}(h:gN y n=0):∀i,i<n→y i=0:=fun i hi=>by
 have:=qnl y i hi;rw[h]at this;have:=Nat.eq_zero_of_zero_dvd this;omega
def qtt(n:Nat)(y:Nat→Int):Prop:=gN y n=1
theorem jno{y z:Nat→Int}(hy:qts n c A y)(hP:qtt n y)(hz:∀j,j<c→au (fun i=>z i*A i j) n=0)(hs:Sup n z y):∃k:Int,∀i,i<n→z i=k*y i:=by
 have hm:=jts hy hz hs;obtain⟨i,hi,hyi⟩:=hy.2.1;have hd:(y i).natAbs ∣ (z i).natAbs:=by
  have h1:(y i).natAbs ∣ gN (fun j=>z i*y j) n:=jff fun j hj=>by
   show(y i).natAbs ∣ (z i*y j).natAbs;rw[←hm i j hi hj,Int.natAbs_mul];exact Nat.dvd_mul_right _ _
  rw[q8k,hP,Nat.mul_one]at h1;exact h1
 obtain⟨k,hk⟩:=Int.natAbs_dvd_natAbs.1 hd;refine⟨k,fun j hj=> ?_⟩;have:=hm i j hi hj;rw[hk,Int.mul_assoc]at this;exact Int.eq_of_mul_eq_mul_left hyi this
theorem q82{y z:Nat→Int}(hy:qts n c A y)(hP:qtt n y)(hz:Sol n c A z)(hn:NZ n z)(hQ:qtt n z)(hs:Sup n z y):EqN n z y:=by
 obtain⟨k,hk⟩:=jno hy hP hz.2 hs;have e1:gN z n=gN (fun i=>k*y i) n:=qyn hk;rw[q8k,hP,hQ,Nat.mul_one]at e1;obtain⟨i,hi,h⟩:=hn;have h0:=hz.1 i hi;have h1:=hy.1.1 i hi;have hk0:0≤k:=by
  apply Classical.byContradiction;intro hneg;have h2:=hk i hi;have h3:0≤-k*y i:=Int.mul_nonneg (by omega) h1;rw[Int.neg_mul]at h3;omega
 have:k=1:=by omega
 intro i hi;rw[hk i hi,this,Int.one_mul]
theorem joe{y:Nat→Int}{g:Int}(hg:0<g){x:Nat→Int}(hx:∀i,i<n→y i=g*x i)(hy:Sol n c A y):Sol n c A x:=by
 refine⟨fun i hi=> ?_,fun j hj=> ?_⟩
 ·have h1:=hy.1 i hi;rw[hx i hi]at h1;exact Int.nonneg_of_mul_nonneg_right (Int.mul_comm g _▸h1) hg|>fun h=>h
 ·have h1:=hy.2 j hj;have e:au (fun i=>y i*A i j) n=au (fun i=>g*(x i*A i j)) n:=bu fun i hi=>by rw[hx i hi,Int.mul_assoc]
  rw[e,m9]at h1;exact(Int.mul_eq_zero.1 h1).resolve_left (by omega)
theorem joo{y:Nat→Int}{g:Int}(hg:0<g){x:Nat→Int}(hx:∀i,i<n→y i=g*x i):Sup n x y∧Sup n y x:=by
 constructor
 ·intro i hi h;rw[hx i hi];exact Int.mul_ne_zero (by omega) h
 ·intro i hi h e;apply h;rw[hx i hi,e,Int.mul_zero]
theorem jtr{y:Nat→Int}(hy:qts n c A y):∃x,qts n c A x∧qtt n x∧Sup n x y∧Sup n y x:=by
 have hg0:gN y n≠0:=fun e=>by
  obtain⟨i,hi,h⟩:=hy.2.1;exact h (jnc e i hi)
 have hx:∀i,i<n→y i=(gN y n:Int)*(y i/(gN y n:Int)):=fun i hi=>by
  have h1:((gN y n:Nat):Int)∣ y i:=Int.natAbs_dvd_natAbs.1 (by rw[Int.natAbs_natCast];exact qnl y i hi);exact(Int.mul_ediv_cancel' h1).symm
 have hg:(0:Int)<(gN y n:Int):=by omega
 have hs:=joo hg hx;refine⟨fun i=>y i/(gN y n:Int),⟨joe hg hx hy.1,?_,fun z h1 h2 h3=>hs.1.trans (hy.2.2 z h1 h2 (h3.trans hs.1))⟩,?_,hs⟩
 ·obtain⟨i,hi,h⟩:=hy.2.1;exact⟨i,hi,hs.2 i hi h⟩
 ·have e:=qyn (n:=n) (y:=y) (z:=fun i=>(gN y n:Int)*(y i/(gN y n:Int))) hx;rw[q8k,Int.natAbs_natCast]at e;unfold qtt;have hg1:0<gN y n:=by omega
  exact Nat.eq_of_mul_eq_mul_left hg1 (by rw[Nat.mul_one];exact e.symm)
theorem jtq{z:Nat→Int}(hz:Sol n c A z){p:Nat}(hp:p<n)(h:z p≠0):∃y,qts n c A y∧qtt n y∧Sup n y z∧y p≠0:=by
 obtain⟨y,h1,h2,h3⟩:=jlp (jcg z n) z (Nat.le_refl _) hz p hp h;obtain⟨x,x1,x2,x3,x4⟩:=jtr h1;exact⟨x,x1,x2,x3.trans h2,x4 p hp h3⟩
theorem jn1(f:Nat→Int):∀(k:Nat) (z:Nat→Int),jcg z n≤k→Sol n c A z→NZ n z→(∀r,qts n c A r→qtt n r→Sup n r z→0<au (fun i=>r i*f i) n)→0<au (fun i=>z i*f i) n:=by
 intro k
 induction k with
 |zero=>
  intro z hk hz ⟨p,hp,h⟩ _;have:=qtn (y:=fun _=>0) (z:=z) (n:=n) (fun i _ h=>absurd rfl h) p hp rfl h;omega
 |succ k ih=>
  intro z hk hz ⟨p,hp,h⟩ ha;obtain⟨y,y1,y2,y3,_⟩:=jtq hz hp h;have hy:=ha y y1 y2 y3;obtain⟨i,hi,h0,hw⟩:=juf y1.1 y1.2.1 hz;have hs:=jgp y3 i;have hzi:z i≠0:=y3 i hi (by omega);have hzi0:0<z i:=by have:=hz.1 i hi;omega
  have hlt:=qtn hs i hi (by show y i*z i-z i*y i=0;rw[Int.mul_comm];omega) hzi;have hc:0≤au (fun j=>(y i*z j-z i*y j)*f j) n:=by
   by_cases hn:NZ n (fun j=>y i*z j-z i*y j)
   ·have:=ih _ (by omega) hw hn fun r r1 r2 r3=>ha r r1 r2 (r3.trans hs)
    omega
   ·refine Int.le_of_eq (Eq.symm (tx fun j hj=> ?_));have:y i*z j-z i*y j=0:=by
     apply Classical.byContradiction;intro hne;exact hn ⟨j,hj,hne⟩
    rw[this,Int.zero_mul]
  rw[jey]at hc;have h5:0<z i*au (fun j=>y j*f j) n:=Int.mul_pos hzi0 hy;have h6:0<y i*au (fun j=>z j*f j) n:=by omega
  exact Int.pos_of_mul_pos_right h6|>fun h=>h (by omega)
end Go.M
