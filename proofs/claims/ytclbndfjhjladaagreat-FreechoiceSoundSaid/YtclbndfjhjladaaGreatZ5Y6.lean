/-
  FreechoiceSound: the law.
-/
import Derived.Test.YtclbndfjhjladaaGreatZ5Y5
set_option linter.all false
namespace Go.Proofs.YtclbndfjhjladaaGreat
open Go.K Go.M
section
variable {n : bp} (W : Wn n)
include W
abbrev spW(n:bp):Sig:=spc n 400 (one n.1.toNat n.2.2.1.toNat)
theorem Wn.n1:1≤n.1∧n.1≤40:=by have:=u4 W.ok;omega
theorem Wn.sp:SpcOK n 400 (one n.1.toNat n.2.2.1.toNat) (spW n):=by
 have:=W.src;exact jrf (jfy W.n1.1 (by omega)) (by omega)
theorem Wn.mkd{i:Nat}(hi:i<(spW n).2.1.length):mt n.1 (df (spW n) i)=true:=W.sp.sp.mks _ (au [] hi)
theorem Wn.len{i:Nat}(hi:i<(spW n).2.1.length):(df (spW n) i).length=n.1.toNat:=by have:=(sr.1 (W.mkd hi)).1;omega
theorem Wn.st0:mkF (df (spW n) 0)=e1 n.2.2.1.toNat:=by
 have:=W.src;rw[W.sp.fst];exact jib (by omega)
theorem Wn.reach{i:Nat}(hi:i<(spW n).2.1.length):tv n (e1 n.2.2.1.toNat) (mkF (df (spW n) i)):=by
 have:=jli W.sm W.ok W.sp (j70 W.sm W.ok W.sp i i (Nat.le_refl _) hi);rwa[W.st0]at this
theorem Wn.fin{i:Nat}(hi:i<(spW n).2.1.length):df (spW n) i=one n.1.toNat n.2.2.2.1.toNat↔mkF (df (spW n) i)=e1 n.2.2.2.1.toNat:=by
 have:=W.src;have e:=jib (N:=n.1.toNat) (p0:=n.2.2.2.1.toNat) (by omega);constructor
 ·intro h;rw[h];exact e
 ·intro h;exact j3a (by rw[W.len hi,jke]) (h.trans e.symm)
variable (hf : (spW n).1 = true)
include hf
theorem Wn.state{y:Nat→Int}(hr:tv n (e1 n.2.2.1.toNat) y):∃j,j<(spW n).2.1.length∧y=mkF (df (spW n) j):=by
 have h0:0<(spW n).2.1.length:=W.sp.sp.pos;rw[←W.st0]at hr;obtain⟨j,hj,e,_⟩:=jkm W.sm W.ok W.sp hf h0 hr;exact⟨j,hj,e⟩
variable (hN : n.1.toNat ≤ 12) (hfw : qt4 (am n)) {r : Nat} (hC : Cond (am n) r)
include hN hfw hC
theorem Wn.same_verdict:Yes n r↔(∀i,i<(spW n).2.1.length→(df (spW n) i).getD n.2.2.2.1.toNat 0=0∨df (spW n) i=one n.1.toNat n.2.2.2.1.toNat)∧
  (∀i,i<(spW n).2.1.length→∃j,Way (spW n).2.2 i j∧j<(spW n).2.1.length∧df (spW n) j=one n.1.toNat n.2.2.2.1.toNat)∧∀t,t<n.2.1.length→∃a b,mvA a b t∈(spW n).2.2:=by
 have hsrc:=W.src;constructor
 ·rintro⟨⟨h1,h2⟩,h3,h4⟩;obtain⟨⟨Y,hY,hS⟩,hL⟩:=W.yes hN hfw hC h1 h2 h3 h4;refine⟨fun i hi=> ?_,fun i hi=> ?_,fun t ht=> ?_⟩
  ·by_cases h0:(df (spW n) i).getD n.2.2.2.1.toNat 0=0
   ·exact .inl h0
   ·have hm:=(sr.1 (W.mkd hi)).2 n.2.2.2.1.toNat (by rw[W.len hi];omega);refine .inr ((W.fin hi).2 (W.propA hY hS (W.rea (W.reach hi)) ?_));show 1≤(df (spW n) i).getD n.2.2.2.1.toNat 0;omega
  ·have h5:=W.compA hY hS hL (W.reach hi);obtain⟨j,hj,e,hw⟩:=jkm W.sm W.ok W.sp hf hi h5;exact⟨j,hw,hj,(W.fin hj).2 e.symm⟩
  ·obtain⟨y,hy,he⟩:=W.fireA hY hS hL ht;obtain⟨j,hj,rfl⟩:=W.state hf hy;obtain⟨b,hb⟩:=W.sp.full hf j t hj ht ((jbm W.sm W.ok (W.mkd hj) ht).2 he);exact⟨j,b,hb⟩
 ·rintro⟨h1,h2,h3⟩;have hp:∀y,tv n (e1 n.2.2.1.toNat) y→1≤y n.2.2.2.1.toNat→y=e1 n.2.2.2.1.toNat:=fun y hy h0=>by
   obtain⟨j,hj,rfl⟩:=W.state hf hy;have h0:1≤(df (spW n) j).getD n.2.2.2.1.toNat 0:=h0;rcases h1 j hj with h|h
   ·omega
   ·exact(W.fin hj).1 h
  have hc:∀y,tv n (e1 n.2.2.1.toNat) y→tv n y (e1 n.2.2.2.1.toNat):=fun y hy=>by
   obtain⟨j,hj,rfl⟩:=W.state hf hy;obtain⟨k,hw,hk,e⟩:=h2 j hj;rw[←(W.fin hk).1 e];exact jli W.sm W.ok W.sp hw
  have hfi:∀t,t<n.2.1.length→∃y,tv n (e1 n.2.2.1.toNat) y∧EnN n y t:=fun t ht=>by
   obtain⟨a,b,hm⟩:=h3 t ht;obtain⟨a',b',t',e,q1,q2,q3,q4,q5⟩:=W.sp.mv _ hm;obtain⟨rfl,rfl,rfl⟩:=q6g W.sm W.ok e;exact⟨_,W.reach q1,(jbm W.sm W.ok (W.mkd q1) q3).1 q4⟩
  have hL:=W.liveB hp hc hfi;obtain⟨g1,g2,g3,g4⟩:=W.must hN hfw hC hL (Bd:=100) fun y hy p hpN=>by
   obtain⟨j,hj,rfl⟩:=W.state hf (W.backB hp hy);have:=((sr.1 (W.mkd hj)).2 p (by rw[W.len hj];exact hpN)).2;show(df (spW n) j).getD p 0≤_;omega
  exact⟨⟨g1,g2⟩,g3,g4⟩
end
theorem qvw{l:List Bool}:(!l.any fun y=>false==y)=true↔∀i,i<l.length→l.getD i false=true:=by
 rw[Bool.not_eq_true',List.any_eq_false];constructor
 ·intro h i hi;have:=h _ (au false hi);cases e:l.getD i false with
  |true=>rfl
  |false=>rw[e]at this;exact absurd rfl this
 ·intro h x hx;obtain⟨i,hi,rfl⟩:=List.mem_iff_getElem.1 hx;have:=h i hi;rw[List.getD_eq_getElem?_getD,List.getElem?_eq_getElem hi]at this;have:l[i]=true:=this;rw[this]
  decide
theorem j20{n:bp}(W:Wn n)(hN:n.1.toNat≤12)(hfw:qt4 (am n)){r:Nat}(hC:Cond (am n) r){sd:Bool}(hsd:sd=true↔Yes n r):f7 sd n.1 n.2.1 n.2.2.1 n.2.2.2.1=some (.inr true):=by
 obtain⟨s1,s2,s3,s4⟩:=W.src;obtain⟨q1,q2⟩:=W.n1;have ho1:qb7 (n.1,n.2.1,n.2.2.1,n.2.2.2.1,()) n.2.2.1=some (one n.1.toNat n.2.2.1.toNat):=jnx (n:=n) q1 q2 s1 s2;have ho2:qb7 (n.1,n.2.1,n.2.2.1,n.2.2.2.1,()) n.2.2.2.1=some (one n.1.toNat n.2.2.2.1.toNat):=jnx (n:=n) q1 q2 s3 s4;obtain⟨s,w,x,hb,hw,hx⟩:=jog W.sm W.ok (jfy (n:=n) (p0:=n.2.2.1.toNat) q1 (by omega));have hb:wd (n.1,n.2.1,n.2.2.1,n.2.2.2.1,()) (one n.1.toNat n.2.2.1.toNat)=some (s,w,x):=hb;have P:=W.sp;have hlen:=P.sp.len;have hpos:=P.sp.pos;have hlen' :(spc n 400 (one n.1.toNat n.2.2.1.toNat)).2.1.length≤400:=hlen;unfold f7 m9;rw[ho1,ax,hb,ax];dsimp only;cases x with
 |true=>
  obtain⟨i,k,hki,hi,_,hle⟩:=hx rfl;cases sd with
  |false=>rfl
  |true=>
   exfalso;obtain⟨⟨h1,h2⟩,h3,h4⟩:=hsd.1 rfl;obtain⟨⟨Y,hY,hS⟩,_⟩:=W.yes hN hfw hC h1 h2 h3 h4;have hk:k<(spW n).2.1.length:=by have:i<(spW n).2.1.length:=hi;omega
   have heq:=W.weq hY hS (W.rea (W.reach hk)) (W.rea (W.reach hi)) hle;have hst:df (spW n) k=df (spW n) i:=by
    refine List.ext_getElem (by rw[W.len hk,W.len hi]) fun p p1 p2=> ?_
    have:=heq p (by rw[W.len hk]at p1;exact p1);unfold mkF at this;rwa[List.getD_eq_getElem?_getD,List.getD_eq_getElem?_getD,List.getElem?_eq_getElem p1,List.getElem?_eq_getElem p2]at this
   have hnd:=List.pairwise_iff_getElem.1 P.sp.nd k i hk hi hki;unfold df at hst;rw[List.getD_eq_getElem?_getD,List.getD_eq_getElem?_getD,List.getElem?_eq_getElem hk,List.getElem?_eq_getElem hi]at hst;exact hnd hst
 |false=>
  rw[cond_false];cases w with
  |false=>rfl
  |true=>
   obtain⟨rfl,hf⟩:=hw rfl;have hf:(spW n).1=true:=hf;have hv:=W.same_verdict hf hN hfw hC;have hst:∀x∈(spW n).2.1,x.length=n.1.toNat:=fun x hx=>by have:=(sr.1 (P.sp.mks x hx)).1;omega
   have hml:=P.ml;have hT:=W.lt;have hmv:(spW n).2.2.length≤400*60:=Nat.le_trans hml (Nat.mul_le_mul_left _ (by omega));obtain⟨pr,g1,g2⟩:=jtc (N:=n.1.toNat) (by omega) (st:=(spW n).2.1) (by omega) hst (sk:=n.2.2.2.1.toNat) (by omega) (one n.1.toNat n.2.2.2.1.toNat) sd n.1 n.2.2.1 n.2.1 (spW n).2.2 (spW n).1;rw[Int.toNat_of_nonneg s3]at g1;obtain⟨f,f1,f2,f3⟩:=jpg (T:=n.2.1.length) (by omega) (mv:=(spW n).2.2) (fun x hx=>by
    obtain⟨a,b,t,e,_,_,ht,_⟩:=P.mv x hx;exact⟨a,b,t,e,ht⟩) (by omega) sd pr (bh (spW n).2.1.length fun i=>decide ((spW n).2.1.getD i []=one n.1.toNat n.2.2.2.1.toNat)) (spW n).2.1 (spW n).1
   have hmok:jx3 (spW n).2.1.length (spW n).2.2:=fun x hx=>by
    obtain⟨a,b,t,e,h1,h2,_⟩:=P.mv x hx;exact⟨a,b,t,e,h1,h2⟩
   obtain⟨g,r1,r2,r3⟩:=jie (st:=(spW n).2.1) (mv:=(spW n).2.2) (spW n).1 hmok (by omega) (by omega) (goal:=bh (spW n).2.1.length fun i=>decide ((spW n).2.1.getD i []=one n.1.toNat n.2.2.2.1.toNat)) (cq _ _);have r3' :∀i,i<(spW n).2.1.length→(g.getD i false=true↔∃j,Way (spW n).2.2 i j∧j<(spW n).2.1.length∧df (spW n) j=one n.1.toNat n.2.2.2.1.toNat):=fun i hi=>by
    rw[r3 i hi];constructor
    ·rintro⟨j,hw,hj⟩;by_cases hjl:j<(spW n).2.1.length
     ·rw[fq hjl]at hj;exact⟨j,hw,hjl,of_decide_eq_true hj⟩
     ·rw[List.getD_eq_getElem?_getD,List.getElem?_eq_none (by rw[cq];omega)]at hj;cases hj
    ·rintro⟨j,hw,hjl,e⟩;exact⟨j,hw,by rw[fq hjl];exact decide_eq_true e⟩
   dsimp only;rw[Bool.not_true,cond_false,ho2,ax,q4m (by omega) (by omega) (by omega) (by omega)];have g1:n9 sd (one n.1.toNat n.2.2.2.1.toNat) (spc n 400 (one n.1.toNat n.2.2.1.toNat)).2.1 ((spc n 400 (one n.1.toNat n.2.2.1.toNat)).2.1.length:Int) n.1 n.2.1 n.2.2.1 n.2.2.2.1 (spc n 400 (one n.1.toNat n.2.2.1.toNat)).2.1 (spc n 400 (one n.1.toNat n.2.2.1.toNat)).2.2 (spc n 400 (one n.1.toNat n.2.2.1.toNat)).1 (true,0,List.replicate (Int.toNat ((spc n 400 (one n.1.toNat n.2.2.1.toNat)).2.1.length:Int)) false)=_:=g1;rw[g1,ax,lj,q4m (by omega) (by omega) (by omega) (by omega)];dsimp only;have f1:oa sd (bh (spc n 400 (one n.1.toNat n.2.2.1.toNat)).2.1.length fun i=>decide ((spc n 400 (one n.1.toNat n.2.2.1.toNat)).2.1.getD i []=one n.1.toNat n.2.2.2.1.toNat)) pr (spc n 400 (one n.1.toNat n.2.2.1.toNat)).2.2 ((spc n 400 (one n.1.toNat n.2.2.1.toNat)).2.2.length:Int) (spc n 400 (one n.1.toNat n.2.2.1.toNat)).2.1 (spc n 400 (one n.1.toNat n.2.2.1.toNat)).2.2 (spc n 400 (one n.1.toNat n.2.2.1.toNat)).1 (0,List.replicate (Int.toNat (n.2.1.length:Int)) false)=_:=f1;rw[f1,ax,lj];have hno:∀b:Bool,(b=true↔Yes n r)→(sd==b)=true:=fun b hb=>by
    rw[beq_iff_eq,Bool.eq_iff_iff,hsd,hb]
   cases hpr:pr with
   |false=>
    rw[cond_false,hno false ⟨fun h=>(by cases h),fun hy=>by
     have:=g2.2 (hv.1 hy).1;rw[hpr]at this;exact this⟩]
   |true=>
    have r1:we ((spc n 400 (one n.1.toNat n.2.2.1.toNat)).2.1,(spc n 400 (one n.1.toNat n.2.2.1.toNat)).2.2,(spc n 400 (one n.1.toNat n.2.2.1.toNat)).1,()) (bh (spc n 400 (one n.1.toNat n.2.2.1.toNat)).2.1.length fun i=>decide ((spc n 400 (one n.1.toNat n.2.2.1.toNat)).2.1.getD i []=one n.1.toNat n.2.2.2.1.toNat))=_:=r1;rw[cond_true,r1,ax,qk0 _ (by omega),ax];cases hg:(!g.any fun y=>false==y)with
    |false=>
     rw[cond_false,hno false ⟨fun h=>(by cases h),fun hy=>by
      have:=qvw.2 fun i hi=>(r3' i (by omega)).2 ((hv.1 hy).2.1 i (by omega))
      rw[hg]at this;exact this⟩]
    |true=>
     rw[cond_true,qk0 _ (by omega),ax];rw[hno _ ⟨fun h=>hv.2 ⟨g2.1 hpr,fun i hi=>(r3' i hi).1 (qvw.1 hg i (by omega)),fun t ht=>(f3 t ht).1 (qvw.1 h t (by omega))⟩,fun hy=>qvw.2 fun t ht=>(f3 t (by omega)).2 ((hv.1 hy).2.2 t (by omega))⟩]
theorem qov(n:bp):s5 n=some true:=by
 unfold s5;rw[jgv];obtain⟨b,hb,hg⟩:=jpm n;simp only[ax,Bool.not_true,cond_false];rw[hb,ax];cases b with
 |true=>rfl
 |false=>
  obtain⟨hs,h1,h2⟩:=hg rfl;obtain⟨w,hw1,hw2,hw3⟩:=jdy hs;rw[cond_false,hw2,ax];cases w with
  |false=>rfl
  |true=>
   obtain⟨hv,hwf⟩:=hw3.1 rfl;obtain⟨s,e1,e2,e3⟩:=juf hs h1 h2 hv hwf hw1;rw[Bool.not_true,cond_false,e1,ax];by_cases e0:s.2=0
   ·obtain⟨W,hN,hf,hc,hwl,r,hC,hsd⟩:=e3 e0;have hT2:=j20 W hN hf hC hsd;rw[decide_eq_true e0,Bool.not_true,cond_false,hc,ax];cases es:s.1 with
    |false=>
     rw[es]at hT2;rw[cond_false,hT2];rfl
    |true=>
     rw[es]at hT2;simp only[cond_true,decide_true];rw[hwl es,ax];simp only[decide_true,Bool.not_true,cond_false];rw[hT2];rfl
   ·rw[decide_eq_false e0,Bool.not_false,cond_true,e2 e0];rfl
end Go.Proofs.YtclbndfjhjladaaGreat
