/-
  Predict: what is left, of program and reference.
-/
import Derived.Test.YtokeielgplbdeaaZ7C5
set_option linter.all false
namespace Go.Proofs.Ytokeielgplbdeaa
open Go.K Go.M
abbrev rGr(σ:sc)(N g:Nat)(nE:List Eg)(c:Mk):bh:=((σ.2.1,nE.map cn,σ.1,()),(g:Int),fl N c,())
inductive Res (n : cz) (m : List Int) (ts : List af) (most : Int) : Prop
 | err (e : Int) (he : e ≠ 0) (h1 : br n m ts most = some ([], 0, 0, e)) (h2 : ce n m ts most = some (zG, e))
 | none (M : List (Int × List ab)) (g N : Int) (h1 : br n m ts most = some (M, g, N, 0)) (hr : ∃ x, a8 M g N = some (x, false)) (h2 : ce n m ts most = some (zG, 10))
 | ok (σ : sc) (N g : Nat) (nE : List Eg) (c : Mk) (hG : GG n m most.toNat σ N g nE c) (hc : c 0 = true) (hv : d9 n = true) (hm : df n.1 m = true) (hts : dk ts n.2.1.length = true) (h1 : br n m ts most = some (gEs c nE, (g : Int), (N : Int), 0)) (hr : ∃ x, a8 (gEs c nE) (g : Int) (N : Int) = some (x, true)) (h2 : ce n m ts most = some (rGr σ N g nE c, 0))
theorem res{n:cz}(h:Small n)(htr:n.2.1.length≤20){m:List Int}(hl:m.length≤1000){ts:List af}(hts:ts.length≤1000){most:Int}(hmost:¬(100<most∧most≤2000)):Res n m ts most:=by
 have hg:=qsp h htr hl hts most;cases ht:dk ts n.2.1.length with
 |false=>
  rw[ht]at hg;exact .err 1 (by decide) hg (jbg h hl hts ht most)
 |true=>
  rw[ht]at hg;have hg:br n m ts most=aw n m most:=hg;cases js5 h htr hl hmost with
  |err e he h1 h2=>exact .err e he (hg.trans h1) (h2 ts hts ht)
  |none σ N g nE c hG hc h1 hr h2=>exact .none _ _ _ (hg.trans h1) hr (h2 ts hts ht)
  |ok σ N g nE c hG hc hv hm h1 hr h2=>exact .ok σ N g nE c hG hc hv hm ht (hg.trans h1) hr (h2 ts hts ht)
structure DistOK (σ : sc) (N g : Nat) (nE : List Eg) (c : Mk) (TT : Nat) (ts : List af) (sl : Bool) (d : p8) : Prop where
 prg : ∀ W, Wt W (k6 ts sl) TT → q3s (gEs c nE) (g : Int) (N : Int) W sl = some (m8 N d)
 ref : cx (rGr σ N g nE c) ts sl = some (p5 N d)
 snd : Snd (fun e => e ∈ nE) (k6 ts sl) g d
 opt : Opt (fun e => e ∈ nE) (k6 ts sl) g sl d
 bd : ∀ i v, d i = some v → 0 ≤ v.1 ∧ v.1 ≤ 104857600 ∧ 0 ≤ v.2 ∧ v.2 ≤ 100
theorem DistOK.at0{σ:sc}{N g:Nat}{nE:List Eg}{c:Mk}{TT:Nat}{ts:List af}{sl:Bool}{d:p8}(h:DistOK σ N g nE c TT ts sl d)(hr:RL nE 0 g):∃v,d 0=some v:=by
 obtain⟨l,hl⟩:=hr;obtain⟨v,h1,_⟩:=h.opt 0 _ (qhy hl);exact⟨v,h1⟩
section
variable {n : cz} {m : List Int} {M : Nat} {σ : sc} {N g : Nat} {nE : List Eg} {c : Mk}
theorem jcs{w:Nat→Int}:∀{l:List Eg},(∀e∈l,0≤w e.2.2∧w e.2.2≤1048576)→0≤wtL w l∧wtL w l≤1048576*(l.length:Int)
 |[],_=>⟨Int.le_refl _,Int.le_refl _⟩
 |e::l,h=>by
  rw[tn,List.length_cons];have h1:=h e List.mem_cons_self;have h2:=jcs (l:=l) fun e' he' =>h e' (List.mem_cons_of_mem _ he')
  omega
theorem q6a(h:GG n m M σ N g nE c){ts:List af}(hts:dk ts n.2.1.length=true){sl:Bool}(hc:qf6 (fun e=>e∈sd c nE) (k6 ts sl) sl g){d:p8}(hs:Snd (fun e=>e∈nE) (k6 ts sl) g d)(ho:Opt (fun e=>e∈nE) (k6 ts sl) g sl d):∀i v,d i=some v→0≤v.1∧v.1≤104857600∧0≤v.2∧v.2≤100:=fun i v hv=>by
 obtain⟨l,h1,h2⟩:=qia (hs i v hv);obtain⟨l',h3,h4,h5⟩:=qen (fun e he=>(h.good e he).a) (q17 h hc) l.length l i (Nat.le_refl _) h1;obtain⟨v',h6,h7⟩:=ho i _ (qhy h3);rw[hv]at h6;cases h6;rw[←h2]at h5;have h8:=qlu h5 h7;have h9:=jcs (w:=k6 ts sl) (l:=l') fun e he=>xc hts sl _ (by rw[j5 hts];exact(h.good e (qln h3 e he).1).t)
 have hN:=h.len.2;rw[←h8];simp only[];omega
theorem jd9(h:GG n m M σ N g nE c){ts:List af}(hts:dk ts n.2.1.length=true):∃d,DistOK σ N g nE c n.2.1.length ts false d:=by
 have hc:qf6 (fun e=>e∈sd c nE) (k6 ts false) false g:=q4r fun e he=>(xc hts false e.2.2 (by rw[j5 hts];exact(h.gl'.good e he).t)).1
 obtain⟨d,h1,h2,h3,h4⟩:=qw1 h hts hc;exact⟨d,h1,h2,h3,h4,q6a h hts hc h3 h4⟩
theorem jfc(h:GG n m M σ N g nE c){ts:List af}(hts:dk ts n.2.1.length=true)(ho:¬Op ts (sd c nE)):∃d,DistOK σ N g nE c n.2.1.length ts true d:=by
 have hc:=q4s h hts ho;obtain⟨d,h1,h2,h3,h4⟩:=qw1 h hts hc;exact⟨d,h1,h2,h3,h4,q6a h hts hc h3 h4⟩
theorem jsd{ts:List af}{TT:Nat}(hts:dk ts TT=true):Wt (fun t=>eu t ts) (k6 ts false) TT:=by
 refine⟨fun t ht=> ?_,fun t ht=>xc hts false t (by rw[j5 hts];exact ht)⟩;have:=j5 hts;unfold eu;simp(disch:=omega)only[Int.toNat_natCast,rs];rfl
theorem jvg{ts:List af}{TT:Nat}(hts:dk ts TT=true):Wt (fun t=>ey t ts) (k6 ts true) TT:=by
 refine⟨fun t ht=> ?_,fun t ht=>xc hts true t (by rw[j5 hts];exact ht)⟩;have:=j5 hts;unfold ey;simp(disch:=omega)only[Int.toNat_natCast,rs];rfl
inductive LeftOK (σ : sc) (N g : Nat) (nE : List Eg) (c : Mk) (TT : Nat) (ts : List af) : af → Prop
 | opn (dF : p8) (v : x9) (hF : DistOK σ N g nE c TT ts false dF) (h0 : dF 0 = some v) (ho : Op ts (sd c nE)) (h1 : ct (gEs c nE) (g : Int) (N : Int) ts = some true) (h2 : ed (rGr σ N g nE c) ts = some true) : LeftOK σ N g nE c TT ts (v.1, 0, true, ())
 | cls (dF dS : p8) (v u : x9) (hF : DistOK σ N g nE c TT ts false dF) (h0 : dF 0 = some v) (ho : ¬ Op ts (sd c nE)) (h1 : ct (gEs c nE) (g : Int) (N : Int) ts = some false) (h2 : ed (rGr σ N g nE c) ts = some false) (hS : DistOK σ N g nE c TT ts true dS) (h3 : dS 0 = some u) : LeftOK σ N g nE c TT ts (v.1, u.1, false, ())
theorem q6q(h:GG n m M σ N g nE c)(hc:c 0=true){ts:List af}(hts:dk ts n.2.1.length=true):∃B,LeftOK σ N g nE c n.2.1.length ts B:=by
 have htl:=j5 hts;obtain⟨dF,hF⟩:=jd9 h hts;have hr:=(h.leads 0).1 hc;obtain⟨v,hv⟩:=hF.at0 hr;obtain⟨b,h1,h2⟩:=jev (ts:=ts) (by rw[htl];exact h.gl') (q3r (sd c nE)) h.pos (g:Int) (N:Int);obtain⟨b',h3,h4⟩:=q43 h htl (g:Int);have hb:b=b' :=by
  rw[Bool.eq_iff_iff,h2,h4]
 subst hb;cases b with
 |true=>exact⟨_, .opn dF v hF hv (h2.1 rfl) h1 h3⟩
 |false=>
  have ho:¬Op ts (sd c nE):=fun h5=>by have:=h2.2 h5;cases this
  obtain⟨dS,hS⟩:=jfc h hts ho;obtain⟨u,hu⟩:=hS.at0 hr;exact⟨_, .cls dF dS v u hF hv ho h1 h3 hS hu⟩
theorem jey(h:GG n m M σ N g nE c){ts:List af}(hts:dk ts n.2.1.length=true){B:af}(hB:LeftOK σ N g nE c n.2.1.length ts B):fw (gEs c nE) (g:Int) (N:Int) ts=some B:=by
 have hN:=h.pos;unfold fw;cases hB with
 |opn dF v hF h0 ho h1 h2=>
  have e1:=hF.prg _ (jsd hts);have e2:(m8 N dF).getD 0 ae.z=nq (dF 0):=vi hN _;have e3:=yx N dF;rw[q5x,e1];rw[h0]at e2;simp(disch:=omega)only[h1,e2,nq,rs]
 |cls dF dS v u hF h0 ho h1 h2 hS h3=>
  have e1:=hF.prg _ (jsd hts);have e2:(m8 N dF).getD 0 ae.z=nq (dF 0):=vi hN _;have e3:=yx N dF;have e4:=hS.prg _ (jvg hts);have e5:(m8 N dS).getD 0 ae.z=nq (dS 0):=vi hN _;have e6:=yx N dS;rw[q5x,jdd,e1,e4];rw[h0]at e2;rw[h3]at e5;simp(disch:=omega)only[h1,e2,e5,nq,rs]
end
theorem qg2{n:cz}{m:List Int}{ts:List af}{most:Int}{e:Int}(he:e≠0)(h1:br n m ts most=some ([],0,0,e)):cj n m ts most=some ((0,0,false,()),e):=by
 unfold cj;simp(disch:=omega)only[h1,decide_eq_false he,Bool.not_false,rs]
theorem qqy{n:cz}{m:List Int}{ts:List af}{most:Int}{M:List (Int×List ab)}{g N:Int}(h1:br n m ts most=some (M,g,N,0))(hr:∃x,a8 M g N=some (x,false)):cj n m ts most=some ((0,0,false,()),10):=by
 obtain⟨x,hx⟩:=hr;unfold cj;simp(disch:=omega)only[h1,hx,Bool.not_false,rs]
theorem qvx{n:cz}{m:List Int}{ts:List af}{most:Int}{σ:sc}{N g:Nat}{nE:List Eg}{c:Mk}(hG:GG n m most.toNat σ N g nE c)(hts:dk ts n.2.1.length=true)(h1:br n m ts most=some (gEs c nE,(g:Int),(N:Int),0))(hr:∃x,a8 (gEs c nE) (g:Int) (N:Int)=some (x,true)){B:af}(hB:LeftOK σ N g nE c n.2.1.length ts B):cj n m ts most=some (B,0):=by
 obtain⟨x,hx⟩:=hr;have h3:=jey hG hts hB;unfold cj;simp(disch:=omega)only[h1,hx,h3,Bool.not_true,rs]
theorem qhl{n:cz}{m:List Int}{ts:List af}{most:Int}{e:Int}(he:e≠0)(h1:ce n m ts most=some (zG,e)):eb n m ts most=some ((0,0,false,()),e):=by
 unfold eb;simp(disch:=omega)only[h1,decide_eq_false he,Bool.not_false,rs]
theorem qwh{n:cz}{m:List Int}{ts:List af}{most:Int}{σ:sc}{N g:Nat}{nE:List Eg}{c:Mk}(hN:0<N)(h1:ce n m ts most=some (rGr σ N g nE c,0)){B:af}(hB:LeftOK σ N g nE c n.2.1.length ts B):eb n m ts most=some (B,0):=by
 unfold eb;cases hB with
 |opn dF v hF h0 ho h2 h3=>
  have e1:=hF.ref;have e2:(p5 N dF).getD 0 af.z=oi (dF 0):=vj hN _;have e3:=yz N dF;rw[h0]at e2;simp(disch:=omega)only[h1,e1,h3,e2,oi,Bool.not_true,rs]
 |cls dF dS v u hF h0 ho h2 h3 hS h4=>
  have e1:=hF.ref;have e2:(p5 N dF).getD 0 af.z=oi (dF 0):=vj hN _;have e3:=yz N dF;have e4:=hS.ref;have e5:(p5 N dS).getD 0 af.z=oi (dS 0):=vj hN _;have e6:=yz N dS;rw[h0]at e2;rw[h4]at e5;simp(disch:=omega)only[h1,e1,h3,e2,e4,e5,oi,Bool.not_true,rs]
theorem jid{n:cz}{m:List Int}{M:Nat}{σ:sc}{N g:Nat}{nE:List Eg}{c:Mk}(h:GG n m M σ N g nE c){ts:List af}(hts:dk ts n.2.1.length=true)(ho:¬Op ts (sd c nE)){dF dS:p8}{v u:x9}(hF:DistOK σ N g nE c n.2.1.length ts false dF)(hS:DistOK σ N g nE c n.2.1.length ts true dS)(h0:dF 0=some v)(h3:dS 0=some u):v.1≤u.1:=by
 obtain⟨l,hl,he⟩:=qia (hS.snd 0 u h3);obtain⟨v',h4,h5⟩:=hF.opt 0 _ (qhy hl);rw[h0]at h4;cases h4;have h6:wtL (k6 ts false) l≤wtL (k6 ts true) l:=by
  have key:∀l:List Eg,(∀e∈l,k6 ts false e.2.2≤k6 ts true e.2.2)→wtL (k6 ts false) l≤wtL (k6 ts true) l:=fun l=>by
   induction l with
   |nil=>intro _;exact Int.le_refl _
   |cons e l ih=>
    intro h;rw[tn,tn];have h1:=h e List.mem_cons_self;have h2:=ih fun e' he' =>h e' (List.mem_cons_of_mem _ he')
    omega
  refine key l fun e hm=> ?_
  obtain⟨g1,g2,g3⟩:=qln hl e hm;have ht:e.2.2<ts.length:=by rw[j5 hts];exact(h.good e g1).t
  have hb:=q7q hts ht;cases hop:opT ts e.2.2 with
  |true=>
   exfalso;exact ho ((h.op ts).2 ⟨e,g1,(h.leads _).2 g3, .inl hop⟩)
  |false=>exact hb.2.2.2.2.2 hop
 rw[he];unfold leV sg at h5;simp at h5;simp only[];omega
theorem qm4{n:cz}{m:List Int}{ts:List af}{most:Int}(h:Res n m ts most):∃B e,cj n m ts most=some (B,e)∧eb n m ts most=some (B,e)∧(e=0→B.2.2.1=false→B.1≤B.2.1):=by
 cases h with
 |err e he h1 h2=>exact⟨_,e,qg2 he h1,qhl he h2,fun h0=>absurd h0 he⟩
 |none M g N h1 hr h2=>exact⟨_,10,qqy h1 hr,qhl (by decide) h2,fun h0=>absurd h0 (by decide)⟩
 |ok σ N g nE c hG hc hv hm hts h1 hr h2=>
  obtain⟨B,hB⟩:=q6q hG hc hts;refine⟨B,0,qvx hG hts h1 hr hB,qwh hG.pos h2 hB,fun _ hb=> ?_⟩;cases hB with
  |opn dF v hF h0 ho h1 h2=>cases hb
  |cls dF dS v u hF h0 ho h1 h2 hS h3=>exact jid hG hts ho hF hS h0 h3
end Go.Proofs.Ytokeielgplbdeaa
