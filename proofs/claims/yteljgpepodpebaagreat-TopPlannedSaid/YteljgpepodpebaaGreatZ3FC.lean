/-
  The simplex method: it ends with some answer.
-/
import Derived.Test.YteljgpepodpebaaGreatZ3FB
set_option linter.all false
namespace Go.Proofs.YteljgpepodpebaaGreat
open Go.K Go.M
theorem jic{f:Nat→Rat}:∀{n:Nat},(∀i,i<n→0≤f i)→0≤d4 n f
 |0,_=>Rat.le_refl
 |n+1,h=>Rat.add_nonneg (jic fun i hi=>h i (by omega)) (h n (by omega))
theorem js2{f:Nat→Rat}:∀{n:Nat},(∀i,i<n→0≤f i)→d4 n f=0→∀i,i<n→f i=0
 |0,_,_,i,hi=>by omega
 |n+1,h,h0,i,hi=>by
  have h1:=jic (n:=n) (f:=f) fun i hi=>h i (by omega)
  have h2:=h n (by omega);have h0:d4 n f+f n=0:=h0;have h3:d4 n f=0:=by grind
  by_cases e:i=n
  ·rw[e];grind
  ·exact js2 (fun i hi=>h i (by omega)) h3 i (by omega)
theorem jne{m e last:Nat}{T0 T:Tb}(hq:Eqv m (e+1) T0 T)(hb:Bas m (e+1) T)(hf:∀i,i<m→0≤T.A i e)(h0:∀j,0≤T0.c j)(he0:T0.c e=0)(h1:∀j,last≤j→j<e→T0.c j=1)(hB:∀i,i<m→T.B i<e)(hc:T.c e=0):
  ∀i,i<m→last≤T.B i→T.A i e=0:=by
 have h2:=jbm hb (Nat.lt_succ_self e);have h3:=hq.c _ ((hq.h _).2 h2);rw[q3h hb (Nat.lt_succ_self e),hc]at h3;unfold Tb.cd at h3;rw[qw1 _ hb (Nat.lt_succ_self e),he0]at h3;have h4:d4 m (fun i=>T0.c (T.B i)*T.A i e)=0:=by grind
 intro i hi hl;have h5:=js2 (fun i hi=>Rat.mul_nonneg (h0 _) (hf i hi)) h4 i hi;have h5:T0.c (T.B i)*T.A i e=0:=h5;rw[h1 _ hl (hB i hi)]at h5
 grind
theorem jj3{vars:Int}{c:List ab}{t3 x:Int}{R:List (List ab)}{bs:List Int}(hx:x≠0):f9 vars c t3 x R bs=some (-1,c,t3,x,R,bs):=by
 have h:qg vars (c,t3,x,R,bs)=some (.inl (c,t3,x,R,bs)):=
  q4d (step:=fun s:RS=>dh (R:=LR RS RS (Int×List ab×Int×Int×List (List ab)×List Int)) vars s.1 s.2.1 s.2.2.1 s.2.2.2.1 s.2.2.2.2 (fun a' =>some (.next a')) (fun e=>some (.done e)) (fun r=>some (.ret r))) (fun _=>(c,t3,x,R,bs)) 0 (by unfold many;omega) (.done (c,t3,x,R,bs)) _ rfl (fun i hi=>by omega) (by
   unfold dh;dsimp only;rw[bg hx])
 unfold f9;rw[h];rfl
section
variable {p : Program} (h : VP p)
include h
theorem qw6{l:Nat}(hl:l<p.2.1.length):
  (qqo p l).length=p.1.length+2*p.2.1.length+1∧(∀j,j<p.1.length+2*p.2.1.length+1→NF (gz (qqo p l) j))∧fv (gz (qqo p l) (p.1.length+p.2.1.length+l))=1∧(∀k,k<p.2.1.length→k≠l→fv (gz (qqo p l) (p.1.length+p.2.1.length+k))=0)∧0≤fv (gz (qqo p l) (p.1.length+2*p.2.1.length)):=
 jrv (h.al l hl) (fun j hj=>h.an l j hl hj) (h.bn l hl) hl
theorem jng:RI p.2.1.length (p.1.length+2*p.2.1.length) (be p.2.1.length (qqo p)) (be p.2.1.length fun i=>((p.1.length+p.2.1.length+i:Nat):Int))∧∀l,l<p.2.1.length→0≤fv (gz (ci (be p.2.1.length (qqo p)) l) (p.1.length+2*p.2.1.length)):=by
 have hR:∀{l},l<p.2.1.length→ci (be p.2.1.length (qqo p)) l=qqo p l:=fun hl=>em hl
 have hB:∀{l},l<p.2.1.length→gb (be p.2.1.length fun i=>((p.1.length+p.2.1.length+i:Nat):Int)) l=((p.1.length+p.2.1.length+l:Nat):Int):=fun hl=>em hl
 refine⟨⟨db _ _,fun l hl=> ?_,fun l j hl hj=> ?_,db _ _,fun l hl=> ?_,fun i hi=> ?_,fun i l hi hl hne=> ?_⟩,fun l hl=> ?_⟩
 ·rw[hR hl];exact(qw6 h hl).1
 ·rw[hR hl];exact(qw6 h hl).2.1 j hj
 ·rw[hB hl];omega
 ·rw[hR hi,hB hi,Int.toNat_natCast];exact(qw6 h hi).2.2.1
 ·rw[hR hl,hB hi,Int.toNat_natCast];exact(qw6 h hl).2.2.2.1 i hi (fun e=>hne e.symm)
 ·rw[hR hl];exact(qw6 h hl).2.2.2.2
end
def jbg(n m:Nat):List ab:=(List.replicate (n+m) ((0,1,()):ab)++List.replicate m ((1,1,()):ab))++[(0,1,())]
theorem jnn(n m:Nat):(jbg n m).length=n+2*m+1:=by
 unfold jbg;rw[List.length_append,List.length_append,List.length_replicate,List.length_replicate];show n+m+m+1=_;omega
theorem q2n{n m j:Nat}:gz (jbg n m) j=if j<n+m then(0,1,())else if j<n+2*m then(1,1,())else if j=n+2*m then(0,1,())else ab.z:=by
 unfold jbg;rw[jbx,List.length_append,List.length_replicate,List.length_replicate];by_cases h1:j<n+m
 ·rw[if_pos h1,if_pos (by omega)];simp only[gz,List.getD_eq_getElem?_getD];rw[List.getElem?_append_left (by rw[List.length_replicate];exact h1),List.getElem?_replicate,if_pos h1];rfl
 ·rw[if_neg h1];by_cases h2:j<n+2*m
  ·rw[if_pos h2,if_pos (by omega)];simp only[gz,List.getD_eq_getElem?_getD];rw[List.getElem?_append_right (by rw[List.length_replicate];omega),List.length_replicate,List.getElem?_replicate,if_pos (by omega)];rfl
  ·rw[if_neg h2,if_neg (by omega)];by_cases h3:j=n+2*m
   ·rw[if_pos h3,if_pos (by omega)]
   ·rw[if_neg h3,if_neg (by omega)]
theorem jqs(n m:Nat):(∀j,j<n+2*m+1→NF (gz (jbg n m) j))∧(∀j,0≤fv (gz (jbg n m) j))∧fv (gz (jbg n m) (n+2*m))=0∧∀j,n+m≤j→j<n+2*m→fv (gz (jbg n m) j)=1:=by
 refine⟨fun j hj=> ?_,fun j=> ?_,?_,fun j h1 h2=> ?_⟩
 ·rw[q2n];split
  ·exact nf0
  ·split
   ·exact nf1
   ·rw[if_pos (by omega)];exact nf0
 ·rw[q2n];split
  ·rw[fv0];exact Rat.le_refl
  ·split
   ·rw[fv1];decide
   ·split
    ·rw[fv0];exact Rat.le_refl
    ·rw[j1t];exact Rat.le_refl
 ·rw[q2n,if_neg (by omega),if_neg (by omega),if_pos rfl];exact fv0
 ·rw[q2n,if_neg (by omega),if_pos h2];exact fv1
def SL(s:de):Prop:=s.2.1.length≤1000∧s.2.2.1.length≤1000∧s.2.2.2.1.length≤1000
theorem SL0:SL (0,[],[],[],(0,0,()),()):=⟨Nat.zero_le _,Nat.zero_le _,Nat.zero_le _⟩
theorem jmm{p:Program}(h:VP p):∃s x,qak p=some (s,x)∧SL s:=by
 obtain⟨turned,htl,hbeg⟩:=jnf h;obtain⟨hri,hfea⟩:=jng h;obtain⟨n0,n1,m0,m1,rl,bl,cn,bn,al,an⟩:=h;generalize hR:be p.2.1.length (qqo p)=R at*;generalize hbs:(be p.2.1.length fun i=>((p.1.length+p.2.1.length+i:Nat):Int))=bs at*;obtain⟨q1,q2,q3,q4⟩:=jqs p.1.length p.2.1.length;obtain⟨C,A,rel,B,u⟩:=p;dsimp only at*;generalize hn:C.length=n at*;generalize hm:A.length=m at*;have hz1:=qgi (n:=n+m) (by omega);have hz2:=qgi (n:=2*m+1) (by omega);have hz3:=qgi (n:=n) (by omega);have hone:=j7f (n:=m) (by omega);have hz1:ep ((n:Int)+(m:Int))=some (List.replicate (n+m) (0,1,())):=by rw[←hz1,Int.natCast_add]
 have hz2:ep ((2:Int)*(m:Int)+1)=some (List.replicate (2*m+1) (0,1,())):=by rw[←hz2];rfl
 unfold qak;rw[hbeg,af];dsimp only;rw[hn,hm,bk (by omega) (by omega),hz1,af,show c9 1=some (1,1,())from rfl,af,hone,af,o4 (by rw[List.length_replicate,List.length_replicate];omega) (by rw[List.length_replicate,List.length_replicate];omega),show c9 0=some (0,1,())from rfl,af,o4 (by rw[List.length_append,List.length_replicate,List.length_replicate];omega) (by rw[List.length_append,List.length_replicate,List.length_replicate];omega)];show∃s x,(bnd (fm [] ((n+m:Nat):Int) 0 (jbg n m) R bs) _)=_∧_;obtain⟨c1,x1,hp1,hp1'⟩:=jae [] ((n+m:Nat):Int) hri (by omega) (by omega) (jnn n m) q1;rw[hp1,af];simp only[decide_true,lf];by_cases hx1:x1=0
 rotate_left
 ·rw[jj3 hx1,af];simp only[decide_true,lf];rw[gn hx1];exact⟨_,_,rfl,SL0⟩
 subst hx1;obtain⟨ti1,bas1,eqv1⟩:=hp1' rfl;obtain⟨k2,c2,x2,R2,bs2,hrun,hR2,hbs2,htr⟩:=jfu (vars:=n+m) ((n+m:Nat):Int) ⟨ti1,bas1,hfea,eqv1⟩ (by omega) (by omega) (by omega);rw[hrun,af];dsimp only;rw[hR2,hbs2,hri.rl,hri.bl];simp only[decide_true,lf];by_cases hx2:x2=0
 rotate_left
 ·rw[gn hx2];exact⟨_,_,rfl,SL0⟩
 subst hx2;obtain⟨⟨ti2,bas2,fea2,eqv2⟩,_,_⟩:=htr rfl;have hcl:=ti2.cl;rw[cm rfl,bk (by omega) (by omega),ao (by omega) (by omega),ao (by omega) (by omega),show((c2.length:Int)-1).toNat=n+2*m by omega];by_cases hz:(gz c2 (n+2*m)).1=0
 rotate_left
 ·rw[gn (show¬(c2.getD (n+2*m) ab.z).1=0 from hz)];obtain⟨y,ys,hmu,hys⟩:=jjo (m:=m) (last:=n+m) (turned:=turned) (c:=c2) (R:=R2) (bs:=bs2) 1 0 htl (by omega) (by omega) (by omega);rw[hmu,af];dsimp only;rw[hR2,hbs2];simp only[decide_true,lf];exact⟨_,_,rfl,Nat.zero_le _,by show ys.length≤1000;omega,Nat.zero_le _⟩
 rw[cm (show(c2.getD (n+2*m) ab.z).1=0 from hz)];have hart:=jne (last:=n+m) eqv2 bas2 fea2 q2 q3 q4 (fun i hi=>by have:=ti2.bn i hi;show(gb bs2 i).toNat<_;omega) ((qoz (ti2.cn _ (by omega))).1 hz);have hai:AI m (n+2*m) (n+m) c2 R2 bs2:=⟨ti2,bas2,fea2,fun i hi hb=>hart i hi (by show n+m≤(gb bs2 i).toNat;omega)⟩;obtain⟨o,ho,hpo⟩:=jn2 (x1:=(n:Int)) (x2:=(m:Int)) (x3:=turned) (x4:=C) (x5:=A) (x6:=rel) (x7:=B) (x8:=0) (x9:=[]) (xa:=[]) (xb:=[]) (xc:=0) (xd:=0) hai (by omega) (by omega) (by omega);rw[hbs2]at ho;rw[ho,af];rcases hpo with⟨c3,R3,bs3,rfl,hai3⟩|⟨x,rfl⟩
 rotate_left
 ·exact⟨_,_,rfl,SL0⟩
 rw[g9];unfold cu di;rw[o4 (by omega) (by omega),af,bk (by omega) (by omega),bk (by omega) (by omega),hz2,af,List.nil_append,o4 (by rw[List.length_replicate];omega) (by rw[List.length_replicate];omega)];have hri3:=hai3.ti.ri hai3.bas;obtain⟨c4,x4,hp4,hp4'⟩:=jae c3 ((n+m:Nat):Int) hri3 (by omega) (by omega) (c0:=C++List.replicate (2*m+1) ((0,1,()):ab)) (by rw[List.length_append,List.length_replicate];omega) (fun j hj=>by
  simp only[gz,List.getD_eq_getElem?_getD,List.getElem?_append];by_cases e:j<C.length
  ·rw[if_pos e,←List.getD_eq_getElem?_getD];exact cn j (by omega)
  ·rw[if_neg e,List.getElem?_replicate,if_pos (by omega)];exact nf0)
 rw[hp4,af];simp only[decide_true,lf];by_cases hx4:x4=0
 rotate_left
 ·rw[jj3 hx4,af];simp only[decide_true,lf];rw[gn hx4];exact⟨_,_,rfl,SL0⟩
 subst hx4;obtain⟨ti4,bas4,_⟩:=hp4' rfl;obtain⟨k5,c5,x5,R5,bs5,hrun5,hR5,hbs5,htr5⟩:=jfu (vars:=n+m) ((n+m:Nat):Int) ⟨ti4,bas4,hai3.fea,Eqv.refl _⟩ (by omega) (by omega) (by omega);rw[hrun5,af];dsimp only;rw[hR5,hbs5,hri3.rl,hri3.bl];simp only[decide_true,lf];by_cases hx5:x5=0
 rotate_left
 ·rw[gn hx5];exact⟨_,_,rfl,SL0⟩
 subst hx5;obtain⟨⟨ti5,bas5,_,_⟩,hk0,hk1⟩:=htr5 rfl;have hri5:=ti5.ri bas5;rw[cm rfl];obtain⟨xs,hxs,hxl⟩:=jmz (c:=c5) ((n+m:Nat):Int) 0 hri5 (n:=n) (by omega) (by omega) (by omega);rw[hxs,af];by_cases hk:0≤k5
 ·rw[lz hk,hz3,af];obtain⟨k,rfl⟩:∃k:Nat,k5=(k:Int):=⟨k5.toNat,by omega⟩;by_cases hkn:(k:Int)<(n:Int)
  ·rw[bi hkn,af,ao (by omega) (by rw[List.length_replicate];omega),ao (by omega) (by rw[List.length_replicate];omega)];obtain⟨ys,hT,hy⟩:=jpl (n:=n) (k:=k) (c:=c5) (x:=xs) (x1:=0) (x2:=[]) (x3:=[]) (x4:=[]) (x5:=0) (x6:=0) (t3:=((n+m:Nat):Int)) (y:=0) (ray:=(List.replicate n ((0,1,()):ab)).set (k:Int).toNat (1,1,())) hri5 (by simp) (by omega) (by omega) (by omega) (by omega);rw[hT,af];exact⟨_,_,rfl,by show xs.length≤1000;omega,Nat.zero_le _,by show ys.length≤1000;omega⟩
  ·rw[bj (by omega)];obtain⟨ys,hT,hy⟩:=jpl (n:=n) (k:=k) (c:=c5) (x:=xs) (x1:=0) (x2:=[]) (x3:=[]) (x4:=[]) (x5:=0) (x6:=0) (t3:=((n+m:Nat):Int)) (y:=0) (ray:=List.replicate n ((0,1,()):ab)) hri5 (by simp) (by omega) (by omega) (by omega) (by omega);rw[hT,af];exact⟨_,_,rfl,by show xs.length≤1000;omega,Nat.zero_le _,by show ys.length≤1000;omega⟩
 ·rw[wd (by omega)];have hcl5:=ti5.cl;obtain⟨y,ys,hmu,hys⟩:=jjo (m:=m) (last:=n+m) (turned:=turned) (c:=c5) (R:=R5) (bs:=bs5) 0 0 htl (by omega) (by omega) (by omega);rw[hmu,af];dsimp only;rw[hR5,hbs5];simp only[decide_true,lf];rw[qe1 (by omega) (by omega),af];by_cases hy:y=0
  ·rw[cm hy];exact⟨_,_,rfl,by show xs.length≤1000;omega,by show ys.length≤1000;omega,Nat.zero_le _⟩
  ·rw[gn hy];exact⟨_,_,rfl,by show xs.length≤1000;omega,by show ys.length≤1000;omega,Nat.zero_le _⟩
end Go.Proofs.YteljgpepodpebaaGreat
