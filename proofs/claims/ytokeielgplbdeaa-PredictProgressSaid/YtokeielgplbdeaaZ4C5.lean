/-
  Predict: distances and open of program and reference agree.
-/
import Derived.Test.YtokeielgplbdeaaZ4C4
set_option linter.all false
namespace Go.Proofs.Ytokeielgplbdeaa
open Go.K Go.M
section
variable {n : c8} {m : List Int} {M : Nat} {σ : ox} {N g : Nat} {nE : List Eg} {c : Mk}
theorem GG.gl'(h:GG n m M σ N g nE c):GL N n.2.1.length (oz c nE):=by
 have h1:=h.len;refine⟨fun e he=>h.good e (List.mem_filter.1 he).1,?_,h1.2⟩;have:(oz c nE).length≤nE.length:=List.length_filter_le _ _;omega
theorem GG.r0(h:GG n m M σ N g nE c):∀k j,j<k→j<N→RL nE 0 j:=by
 intro k
 induction k with
 |zero=>intro j hj;omega
 |succ k ih=>
  intro j hj hN;by_cases h0:j=0
  ·rw[h0];exact qt.refl 0
  ·obtain⟨a,t,ha,hm⟩:=h.ok.rch j (by omega) (by rw[←h.eN];exact hN);have he:(a,j,t)∈nE:=by rw[h.eE];exact(qvc h.ok).2 hm
   exact(ih a (by omega) (by omega)).trans (qt.edge (E:=fun e=>e∈nE) he)
theorem GG.step(h:GG n m M σ N g nE c){e:Eg}(he:e∈nE)(hc:c e.2.1=true):c e.1=true:=(h.leads _).2 (qt.step (E:=fun e=>e∈nE) he ((h.leads _).1 hc))
theorem GG.path(h:GG n m M σ N g nE c):∀{l:List Eg} {i j:Nat},sw (fun e=>e∈nE) i l j→c j=true→sw (fun e=>e∈oz c nE) i l j∧c i=true
 |[],i,j,hl,hc=>⟨hl,by rw[show i=j from hl];exact hc⟩
 |e::l,i,j,⟨h1,h2,h3⟩,hc=>by
  obtain⟨h4,h5⟩:=h.path h3 hc;have h6:=h.step h2 h5;exact⟨⟨h1,List.mem_filter.2 ⟨h2,by rw[h6,h5];rfl⟩,h4⟩,by rw[←h1];exact h6⟩
theorem GG.cg(h:GG n m M σ N g nE c):c g=true:=(h.leads g).2 (qt.refl g)
theorem qd4{e:Eg}(he:e∈oz c nE):e∈nE:=(List.mem_filter.1 he).1
theorem GG.rl(h:GG n m M σ N g nE c){i j:Nat}(hc:c j=true):RL (oz c nE) i j↔RL nE i j:=
 ⟨qt.mono fun e he=>qd4 he,fun⟨l,hl⟩=>⟨l,(h.path hl hc).1⟩⟩
theorem GG.lt(h:GG n m M σ N g nE c){j:Nat}(hc:c j=true):j<N:=by
 obtain⟨l,hl⟩:=(h.leads j).1 hc;cases l with
 |nil=>rw[show j=g from hl];exact h.gl
 |cons e l=>
  obtain⟨h1,h2,_⟩:=hl;rw[←h1];exact(h.good e h2).a
theorem GG.pos(h:GG n m M σ N g nE c):0<N:=by have:=h.gl;omega
theorem GG.wk(h:GG n m M σ N g nE c){w:Nat→Int}{i:Nat}{v:wi}:Wk (fun e=>e∈oz c nE) w g i v↔Wk (fun e=>e∈nE) w g i v:=by
 constructor
 ·exact Wk.sub fun e he=>qd4 he
 ·intro hw;obtain⟨l,h1,rfl⟩:=qe3 hw;exact qaa (h.path h1 h.cg).1
def OpR(ts:List af)(nE:List Eg)(c:Mk)(e:Eg):Prop:=c e.2.1=true∧(opT ts e.2.2=true∨0<grT ts e.2.2∧RL nE e.2.1 e.1)
theorem GG.op(h:GG n m M σ N g nE c)(ts:List af):Op ts (oz c nE)↔∃e∈nE,OpR ts nE c e:=by
 constructor
 ·rintro⟨e,h1,h2,h3⟩;have h4:=List.mem_filter.1 h1;have h5:=(Bool.and_eq_true _ _▸h4.2:c e.1=true∧c e.2.1=true);exact⟨e,h4.1,h5.2,h3.imp id fun h6=>⟨h6.1,(h.rl h5.1).1 h6.2⟩⟩
 ·rintro⟨e,h1,h2,h3⟩;have h4:=h.step h1 h2;exact⟨e,List.mem_filter.2 ⟨h1,by rw[h4,h2];rfl⟩,(h.rl h4).2 (h.r0 _ _ (Nat.lt_succ_self _) (h.lt h4)),h3.imp id fun h6=>⟨h6.1,(h.rl h4).2 h6.2⟩⟩
theorem q07(h:GG n m M σ N g nE c){ts:List af}(hts:ts.length=n.2.1.length)(fi:Int):∃b,f5 ((σ.2.1,nE.map cr,σ.1,()),fi,fb N c,()) ts=some b∧(b=true↔Op ts (oz c nE)):=by
 have hlen:=h.len;have hlA:(nE.map cr).length=nE.length:=by rw[List.length_map]
 have key:∀(f i:Nat),i+f=nE.length→(∀j,j<i→¬OpR ts nE c (nE.getD j (0,0,0)))→
   (∃e∈nE,OpR ts nE c e)∧kz (fun a=>ay ts σ.2.1 (nE.map cr) σ.1 fi (fb N c) a (fun a' =>some (.next a')) (fun e=>some (.done e)) (fun r=>some (.ret r))) (f+1) (i:Int)=some (.inr true)∨
   (¬∃e∈nE,OpR ts nE c e)∧kz (fun a=>ay ts σ.2.1 (nE.map cr) σ.1 fi (fb N c) a (fun a' =>some (.next a')) (fun e=>some (.done e)) (fun r=>some (.ret r))) (f+1) (i:Int)=some (.inl ()):=by
  intro f
  induction f with
  |zero=>
   intro i hi hno;refine .inr ⟨fun⟨q,hq,hq2⟩=> ?_,?_⟩
   ·obtain⟨j,hj,rfl⟩:=i5 (0,0,0) hq;exact hno j (by omega) hq2
   ·rw[ba,show i=nE.length by omega];simp(disch:=omega)only[ay,hlA,rs];rfl
  |succ f ih=>
   intro i hi hno;have hil:i<nE.length:=by omega
   have hg:(nE.map cr).getD i aq.z=cr (nE.getD i (0,0,0)):=gv _ _ _ _ _ hil;have hkl:i<(nE.map cr).length:=by rw[hlA];exact hil
   have hqm:=aw (0,0,0) hil;have hge:=h.good _ hqm;have ih' :=ih (i+1) (by omega);have hno' :¬OpR ts nE c (nE.getD i (0,0,0))→∀j,j<i+1→¬OpR ts nE c (nE.getD j (0,0,0)):=fun h0 j hj=>by
    by_cases hji:j=i
    ·rw[hji];exact h0
    ·exact hno j (by omega)
   rw[ba];generalize nE.getD i (0,0,0)=e at hg hqm hge hno';obtain⟨x,y,t⟩:=e;have hx:x<N:=hge.a;have hy:y<N:=hge.b;have ht:t<ts.length:=by rw[hts];exact hge.t
   have hm0:(cr (x,y,t)).1=(x:Int):=rfl;have hm1:(cr (x,y,t)).2.1=(y:Int):=rfl;have hm2:(cr (x,y,t)).2.2.1=(t:Int):=rfl;have hlc:=wz N c;have h1:(fb N c).getD y false=c y:=s6 hy;obtain⟨c',hb1,hb2⟩:=quz (N:=N) (TT:=n.2.1.length) (g:=x) (by omega) hx nE h.good (by omega) (-1) σ.2.1 h.eN.symm σ.1;have hlc' :=wz N c';have h2:(fb N c').getD y false=c' y:=s6 hy;have hb2:c' y=true↔RL nE y x:=(hb2 y).trans q50;have hgo:(¬OpR ts nE c (x,y,t))→(ay ts σ.2.1 (nE.map cr) σ.1 fi (fb N c) (i:Int) (fun a' =>some (.next a')) (fun e=>some (.done e)) (fun r=>some (.ret r)):Option (LR Int Unit Bool))=some (.next ((i+1:Nat):Int))→
     (∃e∈nE,OpR ts nE c e)∧bnd (ay ts σ.2.1 (nE.map cr) σ.1 fi (fb N c) (i:Int) (fun a' =>some (.next a')) (fun e=>some (.done e)) (fun r=>some (.ret r)):Option (LR Int Unit Bool)) (fun z=>lr z (kz (fun a=>ay ts σ.2.1 (nE.map cr) σ.1 fi (fb N c) a (fun a' =>some (.next a')) (fun e=>some (.done e)) (fun r=>some (.ret r))) (f+1)))=some (.inr true)∨
     (¬∃e∈nE,OpR ts nE c e)∧bnd (ay ts σ.2.1 (nE.map cr) σ.1 fi (fb N c) (i:Int) (fun a' =>some (.next a')) (fun e=>some (.done e)) (fun r=>some (.ret r)):Option (LR Int Unit Bool)) (fun z=>lr z (kz (fun a=>ay ts σ.2.1 (nE.map cr) σ.1 fi (fb N c) a (fun a' =>some (.next a')) (fun e=>some (.done e)) (fun r=>some (.ret r))) (f+1)))=some (.inl ()):=fun h0 h1=>by
    rw[h1];exact ih' (hno' h0)
   have hyes:OpR ts nE c (x,y,t)→(ay ts σ.2.1 (nE.map cr) σ.1 fi (fb N c) (i:Int) (fun a' =>some (.next a')) (fun e=>some (.done e)) (fun r=>some (.ret r)):Option (LR Int Unit Bool))=some (.ret true)→
     (∃e∈nE,OpR ts nE c e)∧bnd (ay ts σ.2.1 (nE.map cr) σ.1 fi (fb N c) (i:Int) (fun a' =>some (.next a')) (fun e=>some (.done e)) (fun r=>some (.ret r)):Option (LR Int Unit Bool)) (fun z=>lr z (kz (fun a=>ay ts σ.2.1 (nE.map cr) σ.1 fi (fb N c) a (fun a' =>some (.next a')) (fun e=>some (.done e)) (fun r=>some (.ret r))) (f+1)))=some (.inr true)∨
     (¬∃e∈nE,OpR ts nE c e)∧bnd (ay ts σ.2.1 (nE.map cr) σ.1 fi (fb N c) (i:Int) (fun a' =>some (.next a')) (fun e=>some (.done e)) (fun r=>some (.ret r)):Option (LR Int Unit Bool)) (fun z=>lr z (kz (fun a=>ay ts σ.2.1 (nE.map cr) σ.1 fi (fb N c) a (fun a' =>some (.next a')) (fun e=>some (.done e)) (fun r=>some (.ret r))) (f+1)))=some (.inl ()):=fun h0 h1=>by
    rw[h1];exact .inl ⟨⟨_,hqm,h0⟩,rfl⟩
   cases hv:c y with
   |false=>
    rw[hv]at h1;refine hgo (fun h0=>by have:=h0.1;simp only[]at this;rw[hv]at this;cases this) ?_;simp(disch:=omega)only[ay,hg,hm0,hm1,hm2,iq,hlc,h1,Bool.not_false,aj,rs]
   |true=>
    rw[hv]at h1;cases ho:opT ts t with
    |true=>
     refine hyes ⟨hv, .inl ho⟩ ?_;simp(disch:=omega)only[ay,hg,hm0,hm1,hm2,iq,hlc,h1,ho,Bool.not_true,aj,rs]
    |false=>
     by_cases hgr:0<grT ts t
     ·have hgrt:decide ((0:Int)<(ts.getD t af.z).2.1)=true:=decide_eq_true hgr;cases hw:c' y with
      |true=>
       rw[hw]at h2;refine hyes ⟨hv, .inr ⟨hgr,hb2.1 hw⟩⟩ ?_;simp(disch:=omega)only[ay,hg,hm0,hm1,hm2,iq,hlc,h1,ho,hgrt,hb1,hlc',h2,Bool.not_true,aj,rs]
      |false=>
       rw[hw]at h2;refine hgo (fun h0=> ?_) ?_
       ·rcases h0.2 with h3|h3
        ·simp only[]at h3;rw[ho]at h3;cases h3
        ·have:=hb2.2 h3.2;rw[hw]at this;cases this
       ·simp(disch:=omega)only[ay,hg,hm0,hm1,hm2,iq,hlc,h1,ho,hgrt,hb1,hlc',h2,Bool.not_true,aj,rs]
     ·have hgrf:decide ((0:Int)<(ts.getD t af.z).2.1)=false:=decide_eq_false hgr;refine hgo (fun h0=> ?_) ?_
      ·rcases h0.2 with h3|h3
       ·simp only[]at h3;rw[ho]at h3;cases h3
       ·exact hgr h3.1
      ·simp(disch:=omega)only[ay,hg,hm0,hm1,hm2,iq,hlc,h1,ho,hgrf,Bool.not_true,aj,rs]
 unfold f5;rw[h.op ts];rcases key nE.length 0 (by omega) (fun j hj=>by omega)with⟨h1,h2⟩|⟨h1,h2⟩
 ·have hL:q9 ts σ.2.1 (nE.map cr) σ.1 fi (fb N c) 0=some (.inr true):=iy h2 (bh (by omega));refine⟨true,?_,⟨fun _=>h1,fun _=>rfl⟩⟩;simp(disch:=omega)only[hL,rs]
 ·have hL:q9 ts σ.2.1 (nE.map cr) σ.1 fi (fb N c) 0=some (.inl ()):=iy h2 (bh (by omega));refine⟨false,?_,⟨(fun e=>by cases e),fun e=>absurd e h1⟩⟩;simp(disch:=omega)only[hL,rs]
theorem q1t{w:Nat→Int}:∀{l:List Eg},(∀e∈l,0≤w e.2.2)→0≤tz w l
 |[],_=>Int.le_refl _
 |e::l,h=>by
  rw[po];have h1:=h e List.mem_cons_self;have h2:=q1t (l:=l) fun e' he' =>h e' (List.mem_cons_of_mem _ he')
  omega
theorem jeb{w:Nat→Int}:∀{l:List Eg},(∀e∈l,w e.2.2=0)→tz w l=0
 |[],_=>rfl
 |e::l,h=>by
  rw[po];have h1:=h e List.mem_cons_self;have h2:=jeb (l:=l) fun e' he' =>h e' (List.mem_cons_of_mem _ he')
  omega
theorem yn{E:Eg→Prop}:∀{l:List Eg} {i j:Nat},sw E i l j→∀e∈l,E e∧qt E i e.1∧qt E e.2.1 j
 |[],_,_,_,e,he=>by cases he
 |a::l,i,j,⟨h1,h2,h3⟩,e,he=>by
  rcases List.mem_cons.1 he with rfl|he
  ·exact⟨h2,by rw[h1];exact qt.refl i,⟨l,h3⟩⟩
  ·obtain⟨g1,g2,g3⟩:=yn h3 e he;exact⟨g1,by rw[←h1];exact qt.step h2 g2,g3⟩
theorem qyk(h:GG n m M σ N g nE c){w:Nat→Int}{sl:Bool}(hc:qga (fun e=>e∈oz c nE) w sl g):qga (fun e=>e∈nE) w sl g:=fun i l hl ⟨l',hl'⟩=>by
 obtain⟨h1,h2⟩:=h.path hl' h.cg;exact hc i l (h.path hl h2).1 ⟨l',h1⟩
theorem q0w{L:List Eg}{w:Nat→Int}(hw:∀e∈L,0≤w e.2.2):qga (fun e=>e∈L) w false g:=fun i l hl _=>q1t fun e he=>hw e (yn hl e he).1
theorem q0x(h:GG n m M σ N g nE c){ts:List af}(hts:c7 ts n.2.1.length=true)(ho:¬Op ts (oz c nE)):qga (fun e=>e∈oz c nE) (gg ts true) true g:=fun i l hl ⟨l',hl'⟩=>by
 have hz:tz (gg ts true) l=0:=jeb fun e he=>by
  obtain⟨h1,h2,h3⟩:=yn hl e he;have ht:=h.gl'.good e h1;have h5:=oe hts true e.2.2 (by rw[gz hts];exact ht.t);have h6:gg ts true e.2.2=grT ts e.2.2:=rfl;have h4:¬0<grT ts e.2.2:=fun hp=>ho ((h.op ts).2 ⟨e,qd4 h1,(Bool.and_eq_true _ _▸(List.mem_filter.1 h1).2:c e.1=true∧c e.2.1=true).2, .inr ⟨hp,(h3.trans h2).mono fun e he=>qd4 he⟩⟩)
  omega
 rw[hz];exact Int.le_refl _
theorem qtn(h:GG n m M σ N g nE c){ts:List af}(hts:c7 ts n.2.1.length=true){sl:Bool}(hc:qga (fun e=>e∈oz c nE) (gg ts sl) sl g):
  ∃d,(∀W,Wt W (gg ts sl) n.2.1.length→qzy (gEs c nE) (g:Int) (N:Int) W sl=some (nh N d))∧dx ((σ.2.1,nE.map cr,σ.1,()),(g:Int),fb N c,()) ts sl=some (p9 N d)∧Snd (fun e=>e∈nE) (gg ts sl) g d∧Opt (fun e=>e∈nE) (gg ts sl) g sl d:=by
 have hlen:=h.len;have htl:=gz hts;have hRG:RG ts sl N g nE:=⟨oe hts sl,fun e he=>by rw[htl];exact h.good e he,hlen.1,hlen.2,h.gl,qyk h hc⟩;obtain⟨d,h1,h2,h3⟩:=q9c hRG σ.2.1 h.eN.symm σ.1 (fb N c);refine⟨d,fun W hW=> ?_,h1,h2,h3⟩;have hok:=qvl (oz c nE);have hme:(fun e=>e∈yk (grp (oz c nE)))=fun e=>e∈oz c nE:=by
  funext e;exact propext (q2t hok e)
 have hBG:BG W (gg ts sl) N n.2.1.length g sl (grp (oz c nE)):=⟨hW,q61 hok h.gl'.good,by rw[hok.len];exact h.gl'.len,hlen.2,h.gl,by rw[hme];exact hc⟩;obtain⟨d',q1,q2,q3⟩:=q9n hBG;rw[hme]at q2 q3;have:d' =d:=y9 (E:=fun e=>e∈nE) (w:=gg ts sl) (g:=g) (sl:=sl) (fun i v hv=>h.wk.1 (q2 i v hv)) (fun i v hv=>q3 i v (h.wk.2 hv)) h2 h3;rw[←this];exact q1
end
end Go.Proofs.Ytokeielgplbdeaa
