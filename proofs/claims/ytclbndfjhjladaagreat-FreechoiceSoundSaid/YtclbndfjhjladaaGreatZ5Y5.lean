/-
  FreechoiceSound: soundness by the rank theorem is soundness.
-/
import Derived.Test.YtclbndfjhjladaaGreatZ5Y4
set_option linter.all false
namespace Go.Proofs.YtclbndfjhjladaaGreat
open Go.K Go.M
def Yes(n:bp)(r:Nat):Prop:=(qoz (ql9 (am n)).1 n.1.toNat=true∧qoz (qop (am n)).1 (am n).2.1.length=true)∧r+1=nCl n∧qfs n.2.2.1 (srt (fu (am n) n.1.toNat))=true
theorem juf{n:bp}(h:Small n)(h1:n.2.1.length≤12∨60≤n.2.1.length)(h2:n.1≤12∨40<n.1)(hv:ck n=true)(hwf:WF n.1.toNat n.2.1 n.2.2.1 n.2.2.2.1)(hw1:ll n=some true):
  ∃s,k9 n=some s∧(s.2≠0→s.1=false)∧(s.2=0→Wn n∧n.1.toNat≤12∧qt4 (am n)∧k8 n=some (am n,0)∧(s.1=true→fg (am n)=some (true,0))∧∃r,Cond (am n) r∧(s.1=true↔Yes n r)):=by
 have hc1:=jr0 h hw1;obtain⟨p1,p2,p3⟩:=u4 hv;unfold k9;rw[hc1,jfc h];simp only[ax];by_cases e:(qs7 n true).2=0
 ·rw[decide_eq_true e];simp only[Bool.not_true,cond_false];cases hfr:qm1 n.2.1 with
  |false=>exact⟨(false,19),rfl,fun _=>rfl,fun h=>absurd h (by decide)⟩
  |true=>
   simp only[Bool.not_true,cond_false];have hlt:n.2.1.length<60:=by
    unfold qs7 at e;by_cases h60:(60:Int)≤(n.2.1.length:Int)
    ·rw[hv,decide_eq_true h60]at e;cases e
    ·omega
   have hco:qs7 n true=(am n,0):=by
    unfold qs7;rw[hv,decide_eq_false (by omega)];rfl
   have W:Wn n:=⟨h,hv,hwf,hfr,hlt⟩;have hlc:=W.clen;have hfc:qt4 (am n):= .inl ⟨show n.1≤12 by omega,by rw[hlc];omega⟩;obtain⟨o,o1,o2,o3,o4⟩:=jpj W.csm W.cok hfc W.cfr;have eN:n.1=((n.1.toNat:Nat):Int):=(Int.toNat_of_nonneg (by omega)).symm;have hN:n.1.toNat≤12:=by omega
   have m1:=jdx (am n) n.1.toNat eN (by omega) W.csm W.cok (by omega);rw[hco,o1];simp only[ax];by_cases e2:o.2=0
   ·rw[decide_eq_true e2];simp only[Bool.not_true,cond_false];obtain⟨r,hC,hiff⟩:=o4 W.con e2;have hiff:o.1=true↔(qoz (ql9 (am n)).1 n.1.toNat=true∧qoz (qop (am n)).1 (am n).2.1.length=true)∧r+1=nCl n:=hiff;cases e3:o.1 with
    |false=>
     refine⟨(false,o.2),rfl,fun _=>rfl,fun _=>⟨W,hN,hfc,(by first|trivial|rfl),fun h=>(by cases h),r,hC,fun h=>(by cases h),fun hy=> ?_⟩⟩;have:=hiff.2 ⟨hy.1,hy.2.1⟩;rw[e3]at this;cases this
    |true=>
     have hoo:o=(true,0):=Prod.ext e3 e2;simp only[Bool.not_true,cond_false];rw[m1];simp only[ax,decide_true,Bool.not_true,cond_false];have hfl:=q5f (am n) n.1.toNat (2 ^ n.1.toNat-1);have hpw:2 ^ n.1.toNat≤2 ^ 12:=Nat.pow_le_pow_right (by omega) hN;have hp1:1≤2 ^ n.1.toNat:=Nat.one_le_two_pow;rw[show 2 ^ n.1.toNat-1+1=2 ^ n.1.toNat by omega]at hfl;have hl:(srt (fu (am n) n.1.toNat)).length≤1000000:=by
      rw[jk6];unfold fu;rw[List.length_map];omega
     have hr:∀r∈srt (fu (am n) n.1.toNat),r.length≤1000:=fun r hr=>by
      have hm:=(wo _).mem_iff.1 hr;unfold fu at hm;obtain⟨k,_,rfl⟩:=List.mem_map.1 hm;have:=q4k n.1.toNat k;omega
     rw[jrz hl hr n];simp only[ax,Bool.not_not];refine⟨_,rfl,fun h=>absurd rfl h,fun _=>⟨W,hN,hfc,(by first|trivial|rfl),fun _=>(by rw[hoo]),r,hC,fun ha=>⟨(hiff.1 e3).1,(hiff.1 e3).2,ha⟩,fun hy=>hy.2.2⟩⟩
   ·rw[decide_eq_false e2];exact⟨(false,o.2),rfl,fun _=>rfl,fun h=>absurd h e2⟩
 ·rw[decide_eq_false e];exact⟨(false,(qs7 n true).2),rfl,fun _=>rfl,fun h=>absurd h e⟩
def one(N p0:Nat):List Int:=(List.replicate N (0:Int)).set p0 1
theorem jnx{n:bp}{p0:Int}(h1:1≤n.1)(h2:n.1≤40)(h3:0≤p0)(h4:p0<n.1):qb7 n p0=some (one n.1.toNat p0.toNat):=by
 unfold qb7 one;simp(disch:=omega)only[List.length_replicate,rs]
theorem jke(N p0:Nat):(one N p0).length=N:=by unfold one;rw[List.length_set,List.length_replicate]
theorem jib{N p0:Nat}(h:p0<N):mkF (one N p0)=e1 p0:=by
 funext p;unfold mkF one e1;rw[qyh (by rw[List.length_replicate];exact h)];by_cases e:p=p0
 ·rw[if_pos e,if_pos e]
 ·rw[if_neg e,if_neg e,List.getD_eq_getElem?_getD,List.getElem?_replicate];split<;>rfl
theorem jfy{n:bp}{p0:Nat}(h1:1≤n.1)(h:p0<n.1.toNat):mt n.1 (one n.1.toNat p0)=true:=by
 refine sr.2 ⟨by rw[jke];omega,fun i _=> ?_⟩;have:(one n.1.toNat p0).getD i 0=e1 p0 i:=congrFun (jib h) i;rw[this];unfold e1;split<;>omega
theorem j3a{a b:List Int}(hl:a.length=b.length)(h:mkF a=mkF b):a=b:=by
 refine List.ext_getElem hl fun i h1 h2=> ?_
 have:=congrFun h i;unfold mkF at this;rwa[List.getD_eq_getElem?_getD,List.getD_eq_getElem?_getD,List.getElem?_eq_getElem h1,List.getElem?_eq_getElem h2]at this
section
variable {N : Nat} (hN : N ≤ 1000) {st : List (List Int)} (hL : st.length ≤ 1000) (hst : ∀ x ∈ st, x.length = N) {sk : Nat} (hsk : sk < N) (fin : List Int)
include hN hL hst hsk
theorem jtc(sd:Bool)(a b:Int)(ts:List ae)(mv:List ar)(fl:Bool):
  ∃pr,n9 sd fin st (st.length:Int) a ts b (sk:Int) st mv fl (true,0,List.replicate (Int.toNat (st.length:Int)) false)=some (.inl (pr,bh st.length fun i=>decide (st.getD i []=fin)))∧
   (pr=true↔∀i,i<st.length→(st.getD i []).getD sk 0=0∨st.getD i []=fin):=by
 obtain⟨o,ho,pr,rfl,hp⟩:=wg (step:=fun a' :Bool×Int×List Bool=>jb (R:=LR (Bool×Int×List Bool) (Bool×List Bool) Bool) sd fin st (st.length:Int) a ts b (sk:Int) st mv fl a'.1 a'.2.1 a'.2.2 (fun a' =>some (.next a')) (fun e=>some (.done e)) (fun r=>some (.ret r)))
  (fun x=>∃i:Nat,x.2.1=(i:Int)∧i≤st.length∧x.2.2=(bh st.length fun j=>if j<i then decide (st.getD j []=fin)else false)∧(x.1=true↔∀j,j<i→(st.getD j []).getD sk 0=0∨st.getD j []=fin)) (fun x=>st.length-x.2.1.toNat)
  (fun o=>∃pr,o= .inl (pr,bh st.length fun i=>decide (st.getD i []=fin))∧(pr=true↔∀i,i<st.length→(st.getD i []).getD sk 0=0∨st.getD i []=fin)) (true,0,List.replicate (Int.toNat (st.length:Int)) false)
  ⟨0,rfl,Nat.zero_le _,by rw[Int.toNat_natCast,qfj];exact cd fun v _=>by rw[if_neg (Nat.not_lt_zero v)],fun _ j hj=>absurd hj (Nat.not_lt_zero j),fun _=>rfl⟩ (by show st.length-(0:Int).toNat<many;have:=bc (n:=st.length) (by omega);omega) (by
   rintro⟨pr,x,g⟩ ⟨i,rfl,hi,rfl,hpr⟩;dsimp only at hpr;unfold jb;dsimp only;by_cases hlt:i<st.length
   ·have hm:=hst _ (au [] hlt);have hgl:(bh st.length fun j=>if j<i then decide (st.getD j []=fin)else false).length=st.length:=cq _ _;have hset:(bh st.length fun j=>if j<i then decide (st.getD j []=fin)else false).set i (decide (st.getD i []=fin))=bh st.length fun j=>if j<i+1 then decide (st.getD j []=fin)else false:=by
     rw[qr];refine cd fun v _=> ?_
     by_cases e:v=i
     ·rw[if_pos e,if_pos (by omega),e]
     ·rw[if_neg e];by_cases e2:v<i
      ·rw[if_pos e2,if_pos (by omega)]
      ·rw[if_neg e2,if_neg (by omega)]
    have hat:(bh st.length fun j=>if j<i+1 then decide (st.getD j []=fin)else false).getD i false=decide (st.getD i []=fin):=by rw[fq hlt,if_pos (by omega)]
    have hnew:∀b:Bool,(b=true↔pr=true∧((st.getD i []).getD sk 0=0∨st.getD i []=fin))→(b=true↔∀j,j<i+1→(st.getD j []).getD sk 0=0∨st.getD j []=fin):=fun b hb=>by
     rw[hb,hpr];constructor
     ·rintro⟨h1,h2⟩ j hj;by_cases e:j=i
      ·rw[e];exact h2
      ·exact h1 j (by omega)
     ·exact fun h=>⟨fun j hj=>h j (by omega),h i (by omega)⟩
    rw[ve (by omega),cu (by omega) (by omega),cu (by omega) (by omega)];simp only[Int.toNat_natCast];rw[q4c _ _ (by omega),ax,cu (by omega) (by omega),cu (by omega) (by omega),hset];have fini:∀b:Bool,(b=true↔pr=true∧((st.getD i []).getD sk 0=0∨st.getD i []=fin))→∃x,ao (c8 .i64 ((i:Int)+1)) (some (LR.next (b,(i:Int)+1,bh st.length fun j=>if j<i+1 then decide (st.getD j []=fin)else false)):Option (LR (Bool×Int×List Bool) (Bool×List Bool) Bool))=some x∧
      jgq (fun x:Bool×Int×List Bool=>∃i:Nat,x.2.1=(i:Int)∧i≤st.length∧x.2.2=(bh st.length fun j=>if j<i then decide (st.getD j []=fin)else false)∧(x.1=true↔∀j,j<i→(st.getD j []).getD sk 0=0∨st.getD j []=fin)) (fun x=>st.length-x.2.1.toNat)
       (fun o:(Bool×List Bool)⊕Bool=>∃pr,o= .inl (pr,bh st.length fun i=>decide (st.getD i []=fin))∧(pr=true↔∀i,i<st.length→(st.getD i []).getD sk 0=0∨st.getD i []=fin)) (st.length-(i:Int).toNat) x:=fun b hb=>by
     rw[qcu (by omega) (by omega),ah];refine⟨_,rfl,⟨i+1,rfl,by omega,rfl,hnew b hb⟩,?_⟩;show st.length-((i+1:Nat):Int).toNat<st.length-(i:Int).toNat;omega
    cases pr with
    |false=>exact fini false (by simp)
    |true=>
     rw[cond_true,cu (by omega) (by omega),cu (by omega) (by omega)];by_cases e0:(st.getD i []).getD sk 0=0
     ·rw[ja0 e0];exact fini true ⟨fun _=>⟨rfl, .inl e0⟩,fun _=>rfl⟩
     ·have htl:(bh st.length fun j=>if j<i+1 then decide (st.getD j []=fin)else false).length=st.length:=cq _ _;rw[q3t e0,cu (by omega) (by omega),cu (by omega) (by omega),hat];refine fini _ ?_;simp only[decide_eq_true_eq,e0,false_or,true_and]
   ·obtain rfl:i=st.length:=by omega
    rw[wq (by omega)];exact⟨_,rfl,pr,congrArg (fun l=>Sum.inl (pr,l)) (cd fun v hv=>if_pos hv),hpr⟩)
 exact⟨pr,ho,hp⟩
end
theorem jm9(k t:Nat):¬(List.replicate k false).getD t false=true:=by
 rw[List.getD_eq_getElem?_getD,List.getElem?_replicate];split<;>simp
theorem j1w{a b t a' b' t' :Nat}(h:mvA a b t=mvA a' b' t'):t=t' :=by
 have h3:(t:Int)=t' :=congrArg (fun x:ar=>x.2.2.1) h;omega
theorem jpg{T:Nat}(hT:T≤1000){mv:List ar}(hm:∀x∈mv,∃a b t:Nat,x=mvA a b t∧t<T)(hml:mv.length≤100000)(sd pr:Bool)(g:List Bool)(st:List (List Int))(fl:Bool):
  ∃f:List Bool,oa sd g pr mv (mv.length:Int) st mv fl (0,List.replicate (Int.toNat (T:Int)) false)=some (.inl f)∧f.length=T∧∀t,t<T→(f.getD t false=true↔∃a b,mvA a b t∈mv):=by
 obtain⟨o,ho,f,rfl,h1,h2⟩:=wg (step:=fun a:Int×List Bool=>jd (R:=LR (Int×List Bool) (List Bool) Bool) sd g pr mv (mv.length:Int) st mv fl a.1 a.2 (fun a' =>some (.next a')) (fun e=>some (.done e)) (fun r=>some (.ret r)))
  (fun x=>∃i:Nat,x.1=(i:Int)∧i≤mv.length∧x.2.length=T∧∀t,t<T→(x.2.getD t false=true↔∃a b j,j<i∧mv.getD j ar.z=mvA a b t)) (fun x=>mv.length-x.1.toNat)
  (fun o=>∃f:List Bool,o= .inl f∧f.length=T∧∀t,t<T→(f.getD t false=true↔∃a b,mvA a b t∈mv)) (0,List.replicate (Int.toNat (T:Int)) false)
  ⟨0,rfl,Nat.zero_le _,by rw[List.length_replicate];omega,fun t ht=>⟨fun h=>absurd h (jm9 _ t),fun⟨_,_,j,hj,_⟩=>absurd hj (Nat.not_lt_zero j)⟩⟩ (by show mv.length-(0:Int).toNat<many;have:=bc (n:=mv.length) (by omega);omega) (by
   rintro⟨x,f⟩ ⟨i,rfl,hi,hf,hg⟩;dsimp only at hf hg;unfold jd;dsimp only;by_cases hlt:i<mv.length
   ·obtain⟨a,b,t0,e,ht0⟩:=hm _ (au ar.z hlt);have e3:(mv.getD i ar.z).2.2.1=(t0:Int):=by rw[e];rfl
    rw[ve (by omega),cu (by omega) (by omega),cu (by omega) (by omega)];simp only[Int.toNat_natCast];rw[e3,cu (by omega) (by omega),cu (by omega) (by omega),qcu (by omega) (by omega),ah,Int.toNat_natCast];refine⟨_,rfl,⟨i+1,rfl,by omega,by rw[List.length_set];exact hf,fun t ht=> ?_⟩,?_⟩
    ·show(f.set t0 true).getD t false=true↔_;rw[q9m (by omega)];by_cases et:t=t0
     ·rw[if_pos et];exact⟨fun _=>⟨a,b,i,by omega,by rw[e,et]⟩,fun _=>rfl⟩
     ·rw[if_neg et,hg t ht];constructor
      ·rintro⟨a,b,j,hj,h⟩;exact⟨a,b,j,by omega,h⟩
      ·rintro⟨a',b',j,hj,h⟩;refine⟨a',b',j,?_,h⟩;have:j≠i:=fun ej=>by
        rw[ej,e]at h;exact et (j1w h).symm
       omega
    ·show mv.length-((i+1:Nat):Int).toNat<mv.length-(i:Int).toNat;omega
   ·obtain rfl:i=mv.length:=by omega
    rw[wq (by omega)];refine⟨_,rfl,f,rfl,hf,fun t ht=> ?_⟩;rw[hg t ht];constructor
    ·rintro⟨a,b,j,hj,h⟩;exact⟨a,b,h▸au ar.z hj⟩
    ·rintro⟨a,b,h⟩;obtain⟨j,hj,e⟩:=List.mem_iff_getElem.1 h;exact⟨a,b,j,hj,by rw[List.getD_eq_getElem?_getD,List.getElem?_eq_getElem hj];exact e⟩)
 exact⟨f,ho,h1,h2⟩
end Go.Proofs.YtclbndfjhjladaaGreat
