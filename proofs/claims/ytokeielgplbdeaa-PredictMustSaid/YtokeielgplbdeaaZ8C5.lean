/-
  Predict: distances and open of program and reference agree.
-/
import Derived.Test.YtokeielgplbdeaaZ8C4
set_option linter.all false
namespace Go.Proofs.Ytokeielgplbdeaa
open Go.K Go.M
section
variable {n : cj} {m : List Int} {M : Nat} {σ : pb} {N g : Nat} {nE : List Eg} {c : Mk}
theorem GG.gl'(h:GG n m M σ N g nE c):GL N n.2.1.length (ov c nE):=by
 have h1:=h.len;refine⟨fun e he=>h.good e (List.mem_filter.1 he).1,?_,h1.2⟩;have:(ov c nE).length≤nE.length:=List.length_filter_le _ _;omega
theorem GG.r0(h:GG n m M σ N g nE c):∀k j,j<k→j<N→RL nE 0 j:=by
 intro k
 induction k with
 |zero=>intro j hj;omega
 |succ k ih=>
  intro j hj hN;by_cases h0:j=0
  ·rw[h0];exact rn.refl 0
  ·obtain⟨a,t,ha,hm⟩:=h.ok.rch j (by omega) (by rw[←h.eN];exact hN);have he:(a,j,t)∈nE:=by rw[h.eE];exact(qxl h.ok).2 hm
   exact(ih a (by omega) (by omega)).trans (rn.edge (E:=fun e=>e∈nE) he)
theorem GG.step(h:GG n m M σ N g nE c){e:Eg}(he:e∈nE)(hc:c e.2.1=true):c e.1=true:=(h.leads _).2 (rn.step (E:=fun e=>e∈nE) he ((h.leads _).1 hc))
theorem GG.path(h:GG n m M σ N g nE c):∀{l:List Eg} {i j:Nat},tj (fun e=>e∈nE) i l j→c j=true→tj (fun e=>e∈ov c nE) i l j∧c i=true
 |[],i,j,hl,hc=>⟨hl,by rw[show i=j from hl];exact hc⟩
 |e::l,i,j,⟨h1,h2,h3⟩,hc=>by
  obtain⟨h4,h5⟩:=h.path h3 hc;have h6:=h.step h2 h5;exact⟨⟨h1,List.mem_filter.2 ⟨h2,by rw[h6,h5];rfl⟩,h4⟩,by rw[←h1];exact h6⟩
theorem GG.cg(h:GG n m M σ N g nE c):c g=true:=(h.leads g).2 (rn.refl g)
theorem qee{e:Eg}(he:e∈ov c nE):e∈nE:=(List.mem_filter.1 he).1
theorem GG.rl(h:GG n m M σ N g nE c){i j:Nat}(hc:c j=true):RL (ov c nE) i j↔RL nE i j:=
 ⟨rn.mono fun e he=>qee he,fun⟨l,hl⟩=>⟨l,(h.path hl hc).1⟩⟩
theorem GG.lt(h:GG n m M σ N g nE c){j:Nat}(hc:c j=true):j<N:=by
 obtain⟨l,hl⟩:=(h.leads j).1 hc;cases l with
 |nil=>rw[show j=g from hl];exact h.gl
 |cons e l=>
  obtain⟨h1,h2,_⟩:=hl;rw[←h1];exact(h.good e h2).a
theorem GG.pos(h:GG n m M σ N g nE c):0<N:=by have:=h.gl;omega
theorem GG.wk(h:GG n m M σ N g nE c){w:Nat→Int}{i:Nat}{v:xf}:Wk (fun e=>e∈ov c nE) w g i v↔Wk (fun e=>e∈nE) w g i v:=by
 constructor
 ·exact Wk.sub fun e he=>qee he
 ·intro hw;obtain⟨l,h1,rfl⟩:=qfb hw;exact qaq (h.path h1 h.cg).1
def OpR(ts:List af)(nE:List Eg)(c:Mk)(e:Eg):Prop:=c e.2.1=true∧(opT ts e.2.2=true∨0<grT ts e.2.2∧RL nE e.2.1 e.1)
theorem GG.op(h:GG n m M σ N g nE c)(ts:List af):Op ts (ov c nE)↔∃e∈nE,OpR ts nE c e:=by
 constructor
 ·rintro⟨e,h1,h2,h3⟩;have h4:=List.mem_filter.1 h1;have h5:=(Bool.and_eq_true _ _▸h4.2:c e.1=true∧c e.2.1=true);exact⟨e,h4.1,h5.2,h3.imp id fun h6=>⟨h6.1,(h.rl h5.1).1 h6.2⟩⟩
 ·rintro⟨e,h1,h2,h3⟩;have h4:=h.step h1 h2;exact⟨e,List.mem_filter.2 ⟨h1,by rw[h4,h2];rfl⟩,(h.rl h4).2 (h.r0 _ _ (Nat.lt_succ_self _) (h.lt h4)),h3.imp id fun h6=>⟨h6.1,(h.rl h4).2 h6.2⟩⟩
theorem q3r(h:GG n m M σ N g nE c){ts:List af}(hts:ts.length=n.2.1.length)(fi:Int):∃b,f7 ((σ.2.1,nE.map cn,σ.1,()),fi,fb N c,()) ts=some b∧(b=true↔Op ts (ov c nE)):=by
 have hlen:=h.len;have hlA:(nE.map cn).length=nE.length:=by rw[List.length_map]
 have key:∀(f i:Nat),i+f=nE.length→(∀j,j<i→¬OpR ts nE c (nE.getD j (0,0,0)))→
   (∃e∈nE,OpR ts nE c e)∧la (fun a=>ax ts σ.2.1 (nE.map cn) σ.1 fi (fb N c) a (fun a' =>some (.next a')) (fun e=>some (.done e)) (fun r=>some (.ret r))) (f+1) (i:Int)=some (.inr true)∨
   (¬∃e∈nE,OpR ts nE c e)∧la (fun a=>ax ts σ.2.1 (nE.map cn) σ.1 fi (fb N c) a (fun a' =>some (.next a')) (fun e=>some (.done e)) (fun r=>some (.ret r))) (f+1) (i:Int)=some (.inl ()):=by
  intro f
  induction f with
  |zero=>
   intro i hi hno;refine .inr ⟨fun⟨q,hq,hq2⟩=> ?_,?_⟩
   ·obtain⟨j,hj,rfl⟩:=ig (0,0,0) hq;exact hno j (by omega) hq2
   ·rw[a8,show i=nE.length by omega];simp(disch:=omega)only[ax,hlA,rs];rfl
  |succ f ih=>
   intro i hi hno;have hil:i<nE.length:=by omega
   have hg:(nE.map cn).getD i aq.z=cn (nE.getD i (0,0,0)):=i9 _ _ _ _ _ hil;have hkl:i<(nE.map cn).length:=by rw[hlA];exact hil
   have hqm:=aw (0,0,0) hil;have hge:=h.good _ hqm;have ih' :=ih (i+1) (by omega);have hno' :¬OpR ts nE c (nE.getD i (0,0,0))→∀j,j<i+1→¬OpR ts nE c (nE.getD j (0,0,0)):=fun h0 j hj=>by
    by_cases hji:j=i
    ·rw[hji];exact h0
    ·exact hno j (by omega)
   rw[a8];generalize nE.getD i (0,0,0)=e at hg hqm hge hno';obtain⟨x,y,t⟩:=e;have hx:x<N:=hge.a;have hy:y<N:=hge.b;have ht:t<ts.length:=by rw[hts];exact hge.t
   have hm0:(cn (x,y,t)).1=(x:Int):=rfl;have hm1:(cn (x,y,t)).2.1=(y:Int):=rfl;have hm2:(cn (x,y,t)).2.2.1=(t:Int):=rfl;have hlc:=xo N c;have h1:(fb N c).getD y false=c y:=tv hy;obtain⟨c',hb1,hb2⟩:=qw6 (N:=N) (TT:=n.2.1.length) (g:=x) (by omega) hx nE h.good (by omega) (-1) σ.2.1 h.eN.symm σ.1;have hlc' :=xo N c';have h2:(fb N c').getD y false=c' y:=tv hy;have hb2:c' y=true↔RL nE y x:=(hb2 y).trans q8v;have hgo:(¬OpR ts nE c (x,y,t))→(ax ts σ.2.1 (nE.map cn) σ.1 fi (fb N c) (i:Int) (fun a' =>some (.next a')) (fun e=>some (.done e)) (fun r=>some (.ret r)):Option (LR Int Unit Bool))=some (.next ((i+1:Nat):Int))→
     (∃e∈nE,OpR ts nE c e)∧bnd (ax ts σ.2.1 (nE.map cn) σ.1 fi (fb N c) (i:Int) (fun a' =>some (.next a')) (fun e=>some (.done e)) (fun r=>some (.ret r)):Option (LR Int Unit Bool)) (fun z=>lr z (la (fun a=>ax ts σ.2.1 (nE.map cn) σ.1 fi (fb N c) a (fun a' =>some (.next a')) (fun e=>some (.done e)) (fun r=>some (.ret r))) (f+1)))=some (.inr true)∨
     (¬∃e∈nE,OpR ts nE c e)∧bnd (ax ts σ.2.1 (nE.map cn) σ.1 fi (fb N c) (i:Int) (fun a' =>some (.next a')) (fun e=>some (.done e)) (fun r=>some (.ret r)):Option (LR Int Unit Bool)) (fun z=>lr z (la (fun a=>ax ts σ.2.1 (nE.map cn) σ.1 fi (fb N c) a (fun a' =>some (.next a')) (fun e=>some (.done e)) (fun r=>some (.ret r))) (f+1)))=some (.inl ()):=fun h0 h1=>by
    rw[h1];exact ih' (hno' h0)
   have hyes:OpR ts nE c (x,y,t)→(ax ts σ.2.1 (nE.map cn) σ.1 fi (fb N c) (i:Int) (fun a' =>some (.next a')) (fun e=>some (.done e)) (fun r=>some (.ret r)):Option (LR Int Unit Bool))=some (.ret true)→
     (∃e∈nE,OpR ts nE c e)∧bnd (ax ts σ.2.1 (nE.map cn) σ.1 fi (fb N c) (i:Int) (fun a' =>some (.next a')) (fun e=>some (.done e)) (fun r=>some (.ret r)):Option (LR Int Unit Bool)) (fun z=>lr z (la (fun a=>ax ts σ.2.1 (nE.map cn) σ.1 fi (fb N c) a (fun a' =>some (.next a')) (fun e=>some (.done e)) (fun r=>some (.ret r))) (f+1)))=some (.inr true)∨
     (¬∃e∈nE,OpR ts nE c e)∧bnd (ax ts σ.2.1 (nE.map cn) σ.1 fi (fb N c) (i:Int) (fun a' =>some (.next a')) (fun e=>some (.done e)) (fun r=>some (.ret r)):Option (LR Int Unit Bool)) (fun z=>lr z (la (fun a=>ax ts σ.2.1 (nE.map cn) σ.1 fi (fb N c) a (fun a' =>some (.next a')) (fun e=>some (.done e)) (fun r=>some (.ret r))) (f+1)))=some (.inl ()):=fun h0 h1=>by
    rw[h1];exact .inl ⟨⟨_,hqm,h0⟩,rfl⟩
   cases hv:c y with
   |false=>
    rw[hv]at h1;refine hgo (fun h0=>by have:=h0.1;simp only[]at this;rw[hv]at this;cases this) ?_;simp(disch:=omega)only[ax,hg,hm0,hm1,hm2,iu,hlc,h1,Bool.not_false,al,rs]
   |true=>
    rw[hv]at h1;cases ho:opT ts t with
    |true=>
     refine hyes ⟨hv, .inl ho⟩ ?_;simp(disch:=omega)only[ax,hg,hm0,hm1,hm2,iu,hlc,h1,ho,Bool.not_true,al,rs]
    |false=>
     by_cases hgr:0<grT ts t
     ·have hgrt:decide ((0:Int)<(ts.getD t af.z).2.1)=true:=decide_eq_true hgr;cases hw:c' y with
      |true=>
       rw[hw]at h2;refine hyes ⟨hv, .inr ⟨hgr,hb2.1 hw⟩⟩ ?_;simp(disch:=omega)only[ax,hg,hm0,hm1,hm2,iu,hlc,h1,ho,hgrt,hb1,hlc',h2,Bool.not_true,al,rs]
      |false=>
       rw[hw]at h2;refine hgo (fun h0=> ?_) ?_
       ·rcases h0.2 with h3|h3
        ·simp only[]at h3;rw[ho]at h3;cases h3
        ·have:=hb2.2 h3.2;rw[hw]at this;cases this
       ·simp(disch:=omega)only[ax,hg,hm0,hm1,hm2,iu,hlc,h1,ho,hgrt,hb1,hlc',h2,Bool.not_true,al,rs]
     ·have hgrf:decide ((0:Int)<(ts.getD t af.z).2.1)=false:=decide_eq_false hgr;refine hgo (fun h0=> ?_) ?_
      ·rcases h0.2 with h3|h3
       ·simp only[]at h3;rw[ho]at h3;cases h3
       ·exact hgr h3.1
      ·simp(disch:=omega)only[ax,hg,hm0,hm1,hm2,iu,hlc,h1,ho,hgrf,Bool.not_true,al,rs]
 unfold f7;rw[h.op ts];rcases key nE.length 0 (by omega) (fun j hj=>by omega)with⟨h1,h2⟩|⟨h1,h2⟩
 ·have hL:se ts σ.2.1 (nE.map cn) σ.1 fi (fb N c) 0=some (.inr true):=ib h2 (bm (by omega));refine⟨true,?_,⟨fun _=>h1,fun _=>rfl⟩⟩;simp(disch:=omega)only[hL,rs]
 ·have hL:se ts σ.2.1 (nE.map cn) σ.1 fi (fb N c) 0=some (.inl ()):=ib h2 (bm (by omega));refine⟨false,?_,⟨(fun e=>by cases e),fun e=>absurd e h1⟩⟩;simp(disch:=omega)only[hL,rs]
theorem q4e{w:Nat→Int}:∀{l:List Eg},(∀e∈l,0≤w e.2.2)→0≤wtL w l
 |[],_=>Int.le_refl _
 |e::l,h=>by
  rw[rm];have h1:=h e List.mem_cons_self;have h2:=q4e (l:=l) fun e' he' =>h e' (List.mem_cons_of_mem _ he')
  omega
theorem jg5{w:Nat→Int}:∀{l:List Eg},(∀e∈l,w e.2.2=0)→wtL w l=0
 |[],_=>rfl
 |e::l,h=>by
  rw[rm];have h1:=h e List.mem_cons_self;have h2:=jg5 (l:=l) fun e' he' =>h e' (List.mem_cons_of_mem _ he')
  omega
theorem y7{E:Eg→Prop}:∀{l:List Eg} {i j:Nat},tj E i l j→∀e∈l,E e∧rn E i e.1∧rn E e.2.1 j
 |[],_,_,_,e,he=>by cases he
 |a::l,i,j,⟨h1,h2,h3⟩,e,he=>by
  rcases List.mem_cons.1 he with rfl|he
  ·exact⟨h2,by rw[h1];exact rn.refl i,⟨l,h3⟩⟩
  ·obtain⟨g1,g2,g3⟩:=y7 h3 e he;exact⟨g1,by rw[←h1];exact rn.step h2 g2,g3⟩
theorem q02(h:GG n m M σ N g nE c){w:Nat→Int}{sl:Bool}(hc:qgm (fun e=>e∈ov c nE) w sl g):qgm (fun e=>e∈nE) w sl g:=fun i l hl ⟨l',hl'⟩=>by
 obtain⟨h1,h2⟩:=h.path hl' h.cg;exact hc i l (h.path hl h2).1 ⟨l',h1⟩
theorem q3g{L:List Eg}{w:Nat→Int}(hw:∀e∈L,0≤w e.2.2):qgm (fun e=>e∈L) w false g:=fun i l hl _=>q4e fun e he=>hw e (y7 hl e he).1
theorem q3h(h:GG n m M σ N g nE c){ts:List af}(hts:du ts n.2.1.length=true)(ho:¬Op ts (ov c nE)):qgm (fun e=>e∈ov c nE) (kd ts true) true g:=fun i l hl ⟨l',hl'⟩=>by
 have hz:wtL (kd ts true) l=0:=jg5 fun e he=>by
  obtain⟨h1,h2,h3⟩:=y7 hl e he;have ht:=h.gl'.good e h1;have h5:=ul hts true e.2.2 (by rw[jl hts];exact ht.t);have h6:kd ts true e.2.2=grT ts e.2.2:=rfl;have h4:¬0<grT ts e.2.2:=fun hp=>ho ((h.op ts).2 ⟨e,qee h1,(Bool.and_eq_true _ _▸(List.mem_filter.1 h1).2:c e.1=true∧c e.2.1=true).2, .inr ⟨hp,(h3.trans h2).mono fun e he=>qee he⟩⟩)
  omega
 rw[hz];exact Int.le_refl _
theorem qvp(h:GG n m M σ N g nE c){ts:List af}(hts:du ts n.2.1.length=true){sl:Bool}(hc:qgm (fun e=>e∈ov c nE) (kd ts sl) sl g):
  ∃d,(∀W,Wt W (kd ts sl) n.2.1.length→q2f (gEs c nE) (g:Int) (N:Int) W sl=some (nm N d))∧d8 ((σ.2.1,nE.map cn,σ.1,()),(g:Int),fb N c,()) ts sl=some (qj N d)∧Snd (fun e=>e∈nE) (kd ts sl) g d∧Opt (fun e=>e∈nE) (kd ts sl) g sl d:=by
 have hlen:=h.len;have htl:=jl hts;have hRG:RG ts sl N g nE:=⟨ul hts sl,fun e he=>by rw[htl];exact h.good e he,hlen.1,hlen.2,h.gl,q02 h hc⟩;obtain⟨d,h1,h2,h3⟩:=jcc hRG σ.2.1 h.eN.symm σ.1 (fb N c);refine⟨d,fun W hW=> ?_,h1,h2,h3⟩;have hok:=qxv (ov c nE);have hme:(fun e=>e∈y4 (grp (ov c nE)))=fun e=>e∈ov c nE:=by
  funext e;exact propext (q5c hok e)
 have hBG:BG W (kd ts sl) N n.2.1.length g sl (grp (ov c nE)):=⟨hW,q91 hok h.gl'.good,by rw[hok.len];exact h.gl'.len,hlen.2,h.gl,by rw[hme];exact hc⟩;obtain⟨d',q1,q2,q3⟩:=jco hBG;rw[hme]at q2 q3;have:d' =d:=zo (E:=fun e=>e∈nE) (w:=kd ts sl) (g:=g) (sl:=sl) (fun i v hv=>h.wk.1 (q2 i v hv)) (fun i v hv=>q3 i v (h.wk.2 hv)) h2 h3;rw[←this];exact q1
end
end Go.Proofs.Ytokeielgplbdeaa
