/-
  Rotas: the bound of the reference; whole multipliers; what proves.
-/
import Derived.Test.YteljgpepodpebaaGreatZ3S4
set_option linter.all false
namespace Go.Proofs.YteljgpepodpebaaGreat
open Go.K Go.M
theorem q9z{S E R:Type}{step step' :S→Option (LR S E R)}(Inv:S→Prop)(μ:S→Nat)(s:S)(hs:Inv s)(hμ:μ s<many)(h:∀s,Inv s→∃x,step s=some x∧step' s=some x∧qxr Inv μ (fun _=>True) (μ s) x):
  ∃o,bm step s=some o∧bm step' s=some o:=by
 obtain⟨o,h1,h2,-⟩:=jow Inv μ (fun _=>True) s hs hμ fun s hs=>by
  obtain⟨x,h1,h2,h3⟩:=h s hs;refine⟨x,h1,h2,?_⟩;cases x<;>exact h3
 exact⟨o,h1,h2⟩
theorem jh1{d:List Int}(l:List ae)(y:List ab)(b0 b1:List Int)(v0 v1:Int)(h:d.length≤1000):qsd d l b0 b1 y v0 v1 (0,[])=some (.inl (be d.length fun t=>(d.getD t 0,1,()))):=by
 refine j9 (fun i=>((i:Int),be i fun t=>(d.getD t 0,1,()))) d.length (cr (by omega)) _ (fun i hi=> ?_) ?_ _ rfl
 ·have h1:=db i fun t=>((d.getD t 0,1,()):ab)
  unfold zo o7;dsimp only;rw[xL,xI,xI,af,xM,xR,am,s8,Int.toNat_natCast]
 ·unfold zo;dsimp only;rw[xN]
theorem jfp{D:Nat}{y:List ab}(hy:y.length=D)(hD:D≤24){i:Nat}{l:List ae}(hi:i<l.length)(v44:List ae)(v45 v46:Int)(hs:qtb D (l.getD i ae.z).1 (l.getD i ae.z).1.length)(b0 b1:List Int)(v80 v81 s0 s1 w80 w81 p q:Int):
  qh3 l b0 b1 y (i:Int) w80 w81 s0 s1 (0,p,q)=qb3 y (i:Int) v44 v45 v46 (l.getD i ae.z).1 ((l.getD i ae.z).1.length:Int) b0 b1 v80 v81 s0 s1 (0,p,q):=by
 have hle:=qkt hs;obtain⟨o,h1,h2⟩:=q9z (step:=fun a:Int×Int×Int=>zp (R:=LR (Int×Int×Int) (Int×Int) (ab×Bool)) l b0 b1 y (i:Int) w80 w81 s0 s1 a.1 a.2.1 a.2.2 (fun a' =>some (.next a')) (fun e=>some (.done e)) (fun r=>some (.ret r)))
  (step' :=fun a:Int×Int×Int=>kh (R:=LR (Int×Int×Int) (Int×Int) (ab×Bool)) y (i:Int) v44 v45 v46 (l.getD i ae.z).1 ((l.getD i ae.z).1.length:Int) b0 b1 v80 v81 s0 s1 a.1 a.2.1 a.2.2 (fun a' =>some (.next a')) (fun e=>some (.done e)) (fun r=>some (.ret r)))
  (fun a=>∃k:Nat,a.1=(k:Int)∧k≤(l.getD i ae.z).1.length) (fun a=>(l.getD i ae.z).1.length-a.1.toNat) (0,p,q) ⟨0,rfl,by omega⟩ (xZ (by omega)) (by
   rintro⟨a,q0,q1⟩ ⟨k,rfl,hk⟩;unfold zp kh;dsimp only;rw[xI,xI,Int.toNat_natCast];by_cases hlt:k<(l.getD i ae.z).1.length
   ·obtain⟨⟨g0,g1⟩,-⟩:=hs k hlt;rw[xL,xL,Int.toNat_natCast k,xI,xI,xI,xI,xI,xI,xI,xI,xI,xI,jma,q25,af];by_cases c0:(qba (q0,q1,()) (y.getD ((l.getD i ae.z).1.getD k 0).toNat ab.z)).2=0
    ·rw[cm c0,xR,am];refine⟨_,rfl,rfl,⟨k+1,rfl,by omega⟩,?_⟩;exact xD (by omega)
    ·rw[gn c0];exact⟨_,rfl,rfl,trivial⟩
   ·rw[xN,xN];exact⟨_,rfl,rfl,trivial⟩)
 exact(show qh3 l b0 b1 y (i:Int) w80 w81 s0 s1 (0,p,q)=some o from h1).trans h2.symm
theorem jh2(y:List ab)(n:Int)(l v44:List ae)(i v45 v46:Int)(b0 b1:List Int)(v80 v81 w80 w81 s0 s1 q0 q1:Int):vf l b0 b1 y i n w80 w81 s0 s1 q0 q1=ig y n v44 v45 v46 b0 b1 v80 v81 s0 s1 q0 q1:=by
 unfold vf qfl ig sq o7 bd;rw[af,af,jah,qxs,af,af];by_cases c0:(mg (q0,q1,()) (n,1,())).2=0
 ·rw[bu c0,cm c0,qyo,q23]
 ·rw[bg c0,gn c0,gn c0]
theorem jfo{d:List Int}{l:List ae}(h:Good d l){lo hi:List Int}{y:List ab}(hy:y.length=d.length)(hlo:lo.length=l.length)(hhi:hi.length=l.length):qcu d l lo hi y=my d l (lo,hi,()) y:=by
 have h1:=h.d1;have h2:=h.l1;unfold qcu my;dsimp only;rw[jh1 l y lo hi 0 0 (by omega),jch l y lo hi 0 0 (by omega),af,af,g9,g9,jl9 (by rw[db];omega) (by omega),qe1 (by rw[db];omega) (by omega),af,af];congr 1;generalize(qc (be d.length fun t=>(d.getD t 0,1,())) y).1=a0;obtain⟨o,h3,h4⟩:=q9z (step:=fun a:Int×Int×Int=>zq (R:=LR (Int×Int×Int) (Int×Int) (ab×Bool)) l lo hi y 0 0 a.1 a.2.1 a.2.2 (fun a' =>some (.next a')) (fun e=>some (.done e)) (fun r=>some (.ret r)))
  (step' :=fun a:Int×Int×Int=>kj (R:=LR (Int×Int×Int) (Int×Int) (ab×Bool)) y l (l.length:Int) lo hi 0 0 a.1 a.2.1 a.2.2 (fun a' =>some (.next a')) (fun e=>some (.done e)) (fun r=>some (.ret r)))
  (fun a=>∃k:Nat,a.1=(k:Int)∧k≤l.length) (fun a=>l.length-a.1.toNat) (0,a0.1,a0.2.1) ⟨0,rfl,by omega⟩ (xZ (by omega)) (by
   rintro⟨a,q0,q1⟩ ⟨k,rfl,hk⟩;unfold zq kj o7 bd;dsimp only;by_cases hlt:k<l.length
   ·have hs:=h.sh k hlt;obtain⟨o,ho,hp⟩:=jfl hy h1 (k:Int) l (l.length:Int) (k:Int) hs.cv lo hi 0 0 q0 q1 ⟨hs.p0,hs.p1⟩;rw[xL,xL,xI,xI,xI,xI,Int.toNat_natCast,af,af];rw[jfp hy h1 hlt l (l.length:Int) (k:Int) hs.cv lo hi 0 0 q0 q1 0 0 _ _,ho,af,af];rcases hp with⟨w0,w1,rfl,-,-⟩|rfl
    ·have fin:∀n:Int,∃x,(bnd (vf l lo hi y (k:Int) n 0 0 q0 q1 w0 w1) fun oe=>lk oe (fun e=>ai (cg .i64 ((k:Int)+1)) (some (LR.next ((k:Int)+1,e.1,e.2)))) fun r=>(some (LR.ret r):Option (LR (Int×Int×Int) (Int×Int) (ab×Bool))))=some x∧(bnd (ig y n l (l.length:Int) (k:Int) lo hi 0 0 q0 q1 w0 w1) fun oe=>lk oe (fun e=>ai (cg .i64 ((k:Int)+1)) (some (LR.next ((k:Int)+1,e.1,e.2)))) fun r=>(some (LR.ret r):Option (LR (Int×Int×Int) (Int×Int) (ab×Bool))))=some x∧qxr (fun a:Int×Int×Int=>∃k:Nat,a.1=(k:Int)∧k≤l.length) (fun a=>l.length-a.1.toNat) (fun _=>True) (l.length-(k:Int).toNat) x:=fun n=>by
      obtain⟨o,ho,hp⟩:=jkk y n l (l.length:Int) (k:Int) lo hi 0 0 q0 q1 w0 w1;rw[jh2 y n l l (k:Int) (l.length:Int) (k:Int) lo hi 0 0 0 0 q0 q1 w0 w1,ho,af];rcases hp with⟨r0,r1,rfl,-,-⟩|rfl
      ·have e:ai (cg .i64 ((k:Int)+1)) (some (LR.next ((k:Int)+1,r0,r1)))=(some (LR.next (((k+1:Nat):Int),r0,r1)):Option (LR (Int×Int×Int) (Int×Int) (ab×Bool))):=by
        rw[xR,am]
       refine⟨.next (((k+1:Nat):Int),r0,r1),e,e,⟨k+1,rfl,by omega⟩,?_⟩;exact xD (by omega)
      ·exact⟨_,rfl,rfl,trivial⟩
     have hx1:∀m:Option (LR (Int×Int×Int) (Int×Int) (ab×Bool)),ai (ix (k:Int) lo.length) m=m:=fun m=>xI
     have hx2:∀m:Option (LR (Int×Int×Int) (Int×Int) (ab×Bool)),ai (ix (k:Int) hi.length) m=m:=fun m=>xI
     simp only[g9,hx1,hx2];by_cases c1:w0<0
     ·rw[bi c1,bi c1];exact fin _
     ·rw[xN,xN];exact fin _
    ·exact⟨_,rfl,rfl,trivial⟩
   ·rw[xN,xN];exact⟨_,rfl,rfl,trivial⟩)
 rw[show qse l lo hi y 0 0 (0,a0.1,a0.2.1)=some o from h3,show vg y l (l.length:Int) lo hi 0 0 (0,a0.1,a0.2.1)=some o from h4]
theorem jvt{a b:Int}(ha: -1073741824≤a∧a≤1073741824)(hb: -1073741824≤b∧b≤1073741824)(hc: -1073741824≤a-b∧a-b≤1073741824):qba (a,1,()) (b,1,())=((a-b,1,()),0):=by
 unfold qba;rw[dr.2 (nu ha.1 ha.2),dr.2 (nu hb.1 hb.2),nk,nk,←Rat.intCast_sub,←nk];exact jjw (nu hc.1 hc.2)
theorem jn8{a b:Int}(ha: -1073741824≤a∧a≤1073741824)(hb: -1073741824≤b∧b≤1073741824)(hc: -1073741824≤a+b∧a+b≤1073741824):qcc (a,1,()) (b,1,())=((a+b,1,()),0):=by
 unfold qcc;rw[dr.2 (nu ha.1 ha.2),dr.2 (nu hb.1 hb.2),nk,nk,←Rat.intCast_add,←nk];exact jjw (nu hc.1 hc.2)
theorem jn9{a b:Int}(ha: -1073741824≤a∧a≤1073741824)(hb: -1073741824≤b∧b≤1073741824)(hc: -1073741824≤a*b∧a*b≤1073741824):mg (a,1,()) (b,1,())=((a*b,1,()),0):=by
 unfold mg;rw[dr.2 (nu ha.1 ha.2),dr.2 (nu hb.1 hb.2),nk,nk,←Rat.intCast_mul,←nk];exact jjw (nu hc.1 hc.2)
def Whole(y:List ab):Prop:=∀t,t<y.length→∃n:Int,y.getD t ab.z=(n,1,())∧0≤n∧n≤100001
theorem jzk{d:List Int}{l:List ae}(h:Good d l)(h6:d.length≤6){y:List ab}(hy:y.length=d.length)(hw:Whole y):∃q:Int,qc (be d.length fun t=>(d.getD t 0,1,())) y=((q,1,()),0)∧0≤q∧q≤60000600:=by
 have key:∀n:Nat,n≤d.length→∃q:Int,qb (be d.length fun t=>(d.getD t 0,1,())) y n=((q,1,()),0)∧0≤q∧q≤n*10000100:=by
  intro n
  induction n with
  |zero=>intro _;exact⟨0,rfl,by omega,by omega⟩
  |succ n ih=>
   intro hn;obtain⟨q,h1,h2,h3⟩:=ih (by omega);obtain⟨w,h4,h5,h7⟩:=hw n (by omega);have h8:=h.dn n (by omega);have h9:0≤d.getD n 0*w:=Int.mul_nonneg h8.1 h5;have h10:d.getD n 0*w≤100*w:=Int.mul_le_mul_of_nonneg_right h8.2 h5;have e:(be d.length fun t=>((d.getD t 0,1,()):ab)).getD n ab.z=(d.getD n 0,1,()):=em (by omega);refine⟨q+d.getD n 0*w,?_,by omega,by omega⟩;rw[qb,h1,e,h4,jn9 (by omega) (by omega) (by omega)];show(bif decide ((qcc (q,1,()) (d.getD n 0*w,1,())).2=0)then _ else _)=_;rw[jn8 (by omega) (by omega) (by omega)];rfl
 obtain⟨q,h1,h2,h3⟩:=key d.length (Nat.le_refl _);refine⟨q,?_,h2,by omega⟩;have hv1:(be d.length fun t=>((d.getD t 0,1,()):ab)).all vB=true:=qkp.2 fun j hj=>by
  rw[db]at hj;have e:gz (be d.length fun t=>((d.getD t 0,1,()):ab)) j=(d.getD j 0,1,()):=em hj;rw[e];have:=h.dn j hj;exact nu (by omega) (by omega)
 have hv2:y.all vB=true:=qkp.2 fun j hj=>by
  obtain⟨w,h4,h5,h7⟩:=hw j hj;have e:gz y j=(w,1,()):=h4;rw[e];exact nu (by omega) (by omega)
 have hl:=db d.length fun t=>((d.getD t 0,1,()):ab)
 unfold qc;rw[hv1,hv2];show(bif decide _ then _ else _)=_;rw[xN,xN,cm (by omega),hl];exact h1
theorem jrn{D:Nat}{y:List ab}(hy:y.length=D)(hD:D≤6)(hw:Whole y)(i:Int)(v44:List ae)(v45 v46:Int){s:List Int}(hs:qtb D s s.length)(b0 b1:List Int)(v80 v81 s0 s1:Int){p:Int}(hp:0≤p∧p≤1000):
  ∃q,qb3 y i v44 v45 v46 s (s.length:Int) b0 b1 v80 v81 s0 s1 (0,p,1)=some (.inl (q,1))∧-600006≤q∧q≤1000:=by
 have hle:=qkt hs;obtain⟨o,ho,q,rfl,hp2⟩:=fy (step:=fun a:Int×Int×Int=>kh (R:=LR (Int×Int×Int) (Int×Int) (ab×Bool)) y i v44 v45 v46 s (s.length:Int) b0 b1 v80 v81 s0 s1 a.1 a.2.1 a.2.2 (fun a' =>some (.next a')) (fun e=>some (.done e)) (fun r=>some (.ret r)))
  (fun a=>∃(k:Nat) (q:Int),a=((k:Int),q,1)∧k≤s.length∧-(k*100001)≤q∧q≤1000) (fun a=>s.length-a.1.toNat)
  (fun o=>∃q,o= .inl (q,1)∧-600006≤q∧q≤1000) (0,p,1)
  ⟨0,p,rfl,by omega,by omega,by omega⟩ (xZ (by omega)) (by
   rintro a ⟨k,q,rfl,hk,hq0,hq1⟩;unfold kh;dsimp only;by_cases hlt:k<s.length
   ·obtain⟨⟨g0,g1⟩,-⟩:=hs k hlt;obtain⟨w,h4,h5,h7⟩:=hw (s.getD k 0).toNat (by omega);rw[xL,xI,xI,Int.toNat_natCast,xI,xI,q25,af,h4,jvt (by omega) (by omega) (by omega),cm rfl,xR,am];refine⟨_,rfl,⟨k+1,q-w,rfl,by omega,by omega,by omega⟩,?_⟩;exact xD (by omega)
   ·rw[xN];exact⟨_,rfl,q,rfl,by omega,hq1⟩)
 exact⟨q,ho,hp2⟩
theorem jqr{d:List Int}{l:List ae}(h:Good d l)(h6:d.length≤6)(h5:l.length≤5){lo hi:List Int}{y:List ab}(hy:y.length=d.length)(hw:Whole y)(hlo:lo.length=l.length)(hhi:hi.length=l.length)
  (hlo2:∀i,i<l.length→0≤lo.getD i 0∧lo.getD i 0≤20) (hhi2:∀i,i<l.length→0≤hi.getD i 0∧hi.getD i 0≤20):∃r,my d l (lo,hi,()) y=some (r,true):=by
 unfold my;dsimp only;rw[jch l y lo hi 0 0 (by omega),af];show∃r,bnd (mq (be d.length fun t=>(d.getD t 0,1,())) y) _=some (r,true);obtain⟨q,hq,hq0,hq1⟩:=jzk h h6 hy hw;rw[qe1 (by rw[db];omega) (by omega),af,hq,cm rfl];obtain⟨o,ho,q',rfl⟩:=fy (step:=fun a:Int×Int×Int=>kj (R:=LR (Int×Int×Int) (Int×Int) (ab×Bool)) y l (l.length:Int) lo hi 0 0 a.1 a.2.1 a.2.2 (fun a' =>some (.next a')) (fun e=>some (.done e)) (fun r=>some (.ret r)))
  (fun a=>∃(k:Nat) (q:Int),a=((k:Int),q,1)∧k≤l.length∧-(k*12000120)≤q∧q≤60000600+k*20000) (fun a=>l.length-a.1.toNat)
  (fun o=>∃q,o= .inl (q,1)) (0,q,1)
  ⟨0,q,rfl,by omega,by omega,by omega⟩ (xZ (by omega)) (by
   rintro a ⟨k,q,rfl,hk,hq0,hq1⟩;unfold kj bd;dsimp only;by_cases hlt:k<l.length
   ·have hs:=h.sh k hlt;obtain⟨p,hp,hp0,hp1⟩:=jrn hy h6 hw (k:Int) l (l.length:Int) (k:Int) hs.cv lo hi 0 0 q 1 ⟨hs.p0,hs.p1⟩;rw[xL,xI,xI,Int.toNat_natCast,af,hp,af,g9,xI,xI];have fin:∀n:Int,0≤n∧n≤20→∃x,(bnd (ig y n l (l.length:Int) (k:Int) lo hi 0 0 q 1 p 1) fun oe=>lk oe (fun e=>ai (cg .i64 ((k:Int)+1)) (some (LR.next ((k:Int)+1,e.1,e.2)))) fun r=>(some (LR.ret r):Option (LR (Int×Int×Int) (Int×Int) (ab×Bool))))=some x∧qxr (fun a=>∃(k:Nat) (q:Int),a=((k:Int),q,1)∧k≤l.length∧-(k*12000120)≤q∧q≤60000600+k*20000) (fun a:Int×Int×Int=>l.length-a.1.toNat)
      (fun o:(Int×Int)⊕(ab×Bool)=>∃q,o= .inl (q,1)) (l.length-(k:Int).toNat) x:=fun n hn=>by
     have h1: -600006*n≤p*n:=Int.mul_le_mul_of_nonneg_right hp0 hn.1;have h2:p*n≤1000*n:=Int.mul_le_mul_of_nonneg_right hp1 hn.1;unfold ig sq bd;rw[af,qxs,af,jn9 (by omega) (by omega) (by omega),cm rfl,q23,af,jn8 (by omega) (by omega) (by omega),cm rfl,af];refine⟨.next (((k+1:Nat):Int),q+p*n,1),?_,⟨k+1,q+p*n,rfl,by omega,by omega,by omega⟩,?_⟩
     ·show ai (cg .i64 ((k:Int)+1)) (some (LR.next ((k:Int)+1,q+p*n,1)))=_;rw[xR,am]
     ·exact xD (by omega)
    by_cases c1:p<0
    ·rw[bi c1,xI,xI];exact fin _ (hhi2 k hlt)
    ·rw[xN];exact fin _ (hlo2 k hlt)
   ·rw[xN];exact⟨_,rfl,q,rfl⟩)
 have ho:vg y l (l.length:Int) lo hi 0 0 (0,q,1)=_:=ho;show∃r,bnd (vg y l (l.length:Int) lo hi 0 0 (0,q,1)) _=some (r,true);rw[ho,af];exact⟨_,rfl⟩
theorem jlz(x:List ab)(hl:x.length≤9223372036854775806):cw x=some (x.any fun a=> !vB a||decide (a.1<0)):=by
 have h:=te (step:=fun a=>bx (R:=LR Int Unit Int) x (x.length:Int) a (fun a' =>some (.next a')) (fun e=>some (.done e)) (fun r=>some (.ret r))) x ab.z (fun a=> !vB a||decide (a.1<0)) (fun i=>(i:Int)) hl (fun i hi=>by
  unfold bx qfv;simp(disch:=omega)only[qt7,rs];rw[am];cases vB (x.getD i ab.z)<;>cases decide ((x.getD i ab.z).1<0)<;>rfl) (by unfold bx;simp(disch:=omega)only[rs])
 have h:jl x (x.length:Int) 0=_:=h;unfold cw fg;rw[h,af,qg2,af,qq4]
def YG(D:Nat)(y:List ab):Prop:=y.length=D∧∀t,t<D→NF (y.getD t ab.z)∧0≤yv y t
theorem qjb{d:List Int}{l:List ae}(h:Good d l){lo hi:List Int}{y:List ab}(hlo:lo.length=l.length)(hhi:hi.length=l.length){cost:Int}(hc:0≤cost∧cost≤1000000):
  ∃b,li d l (lo,hi,()) y cost=some b∧(b=true→YG d.length y∧((cost-1:Int):Rat)<qrj d l lo hi y)∧(YG d.length y→(∃r,my d l (lo,hi,()) y=some (r,true))→((cost-1:Int):Rat)<qrj d l lo hi y→b=true):=by
 have h1:=h.d1;unfold li;by_cases hy:(y.length:Int)=d.length
 ·have hy2:y.length=d.length:=by omega
  rw[cm hy,jlz y (by omega),af];have hg:(y.any fun a=> !vB a||decide (a.1<0))=false↔YG d.length y:=by
   rw[List.any_eq_false];constructor
   ·intro h;refine⟨hy2,fun t ht=> ?_⟩;have h2:=h _ (l5 ab.z (show t<y.length by omega));rw[Bool.or_eq_true,not_or,decide_eq_true_iff]at h2;have h3:NF (y.getD t ab.z):=dr.1 (by revert h2;cases vB (y.getD t ab.z)<;>simp);exact⟨h3,Rat.not_lt.1 fun h=>h2.2 ((wg h3).2 h)⟩
   ·intro h x hx;obtain⟨i,hi,rfl⟩:=qox ab.z hx;have h3:=h.2 i (by omega);rw[Bool.or_eq_true,not_or,decide_eq_true_iff,dr.2 h3.1];exact⟨by decide,fun h4=>absurd ((wg h3.1).1 h4) (Rat.not_lt.2 h3.2)⟩
  cases hb:(y.any fun a=> !vB a||decide (a.1<0))with
  |true=>
   refine⟨false,rfl,fun h=>(by cases h),fun hy _ _=> ?_⟩;rw[hg.2 hy]at hb;cases hb
  |false=>
   obtain⟨r,ok,e1,e2⟩:=jd9 h hy2 hlo hhi;have hyg:=hg.1 hb;rw[cond_false,e1,af];cases ok with
   |false=>exact⟨false,rfl,fun h=>(by cases h),fun _ ⟨r,hr⟩ _=>by cases hr⟩
   |true=>
    have e3:=e2 rfl;have hn:NF ((cost-1,1,()):ab):=nu (by omega) (by omega);have e4:qdh r (cost-1,1,())=((bif decide (fv r<fv (cost-1,1,()))then(-1:Int)else bif decide (fv (cost-1,1,())<fv r)then 1 else 0),0):=by
     unfold qdh;rw[dr.2 e3.1,dr.2 hn];rfl
    simp only[Bool.not_true,cond_false];unfold bd;rw[xR,af,ja5,af,e4,bu rfl,nk,e3.2];by_cases c1:((cost-1:Int):Rat)<qrj d l lo hi y
    ·have c2:¬qrj d l lo hi y<((cost-1:Int):Rat):=by grind
     rw[decide_eq_true c1,decide_eq_false c2];exact⟨true,rfl,fun _=>⟨hyg,c1⟩,fun _ _ _=>rfl⟩
    ·rw[decide_eq_false c1];refine⟨false,?_,fun h=>(by cases h),fun _ _ h=>absurd h c1⟩;cases decide (qrj d l lo hi y<((cost-1:Int):Rat))<;>rfl
 ·rw[gn hy];exact⟨false,rfl,fun h=>(by cases h),fun h=>absurd (congrArg (fun n:Nat=>(n:Int)) h.1) hy⟩
end Go.Proofs.YteljgpepodpebaaGreat
