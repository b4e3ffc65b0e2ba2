/-
  Predict: what is left, of program and reference.
-/
import Derived.Test.YtokeielgplbdeaaZ6C5
set_option linter.all false
namespace Go.Proofs.Ytokeielgplbdeaa
open Go.K Go.M
abbrev rGr(σ:p2)(N g:Nat)(nE:List Eg)(c:Mk):cq:=((σ.2.1,nE.map cm,σ.1,()),(g:Int),fl N c,())
inductive Res (n : c9) (m : List Int) (ts : List af) (most : Int) : Prop
 | err (e : Int) (he : e ≠ 0) (h1 : bc n m ts most = some ([], 0, 0, e)) (h2 : b7 n m ts most = some (zG, e))
 | none (M : List (Int × List ab)) (g N : Int) (h1 : bc n m ts most = some (M, g, N, 0)) (hr : ∃ x, aq M g N = some (x, false)) (h2 : b7 n m ts most = some (zG, 10))
 | ok (σ : p2) (N g : Nat) (nE : List Eg) (c : Mk) (hG : GG n m most.toNat σ N g nE c) (hc : c 0 = true) (hv : de n = true) (hm : df n.1 m = true) (hts : c8 ts n.2.1.length = true) (h1 : bc n m ts most = some (gEs c nE, (g : Int), (N : Int), 0)) (hr : ∃ x, aq (gEs c nE) (g : Int) (N : Int) = some (x, true)) (h2 : b7 n m ts most = some (rGr σ N g nE c, 0))
theorem res{n:c9}(h:Small n)(htr:n.2.1.length≤20){m:List Int}(hl:m.length≤1000){ts:List af}(hts:ts.length≤1000){most:Int}(hmost:¬(100<most∧most≤2000)):Res n m ts most:=by
 have hg:=qq2 h htr hl hts most;cases ht:c8 ts n.2.1.length with
 |false=>
  rw[ht]at hg;exact .err 1 (by decide) hg (q8d h hl hts ht most)
 |true=>
  rw[ht]at hg;have hg:bc n m ts most=aw n m most:=hg;cases jp8 h htr hl hmost with
  |err e he h1 h2=>exact .err e he (hg.trans h1) (h2 ts hts ht)
  |none σ N g nE c hG hc h1 hr h2=>exact .none _ _ _ (hg.trans h1) hr (h2 ts hts ht)
  |ok σ N g nE c hG hc hv hm h1 hr h2=>exact .ok σ N g nE c hG hc hv hm ht (hg.trans h1) hr (h2 ts hts ht)
structure DistOK (σ : p2) (N g : Nat) (nE : List Eg) (c : Mk) (TT : Nat) (ts : List af) (sl : Bool) (d : pz) : Prop where
 prg : ∀ W, Wt W (i5 ts sl) TT → q0t (gEs c nE) (g : Int) (N : Int) W sl = some (ng N d)
 ref : dx (rGr σ N g nE c) ts sl = some (p5 N d)
 snd : Snd (fun e => e ∈ nE) (i5 ts sl) g d
 opt : Opt (fun e => e ∈ nE) (i5 ts sl) g sl d
 bd : ∀ i v, d i = some v → 0 ≤ v.1 ∧ v.1 ≤ 104857600 ∧ 0 ≤ v.2 ∧ v.2 ≤ 100 ∧ v.2 ≤ (N : Int)
theorem DistOK.at0{σ:p2}{N g:Nat}{nE:List Eg}{c:Mk}{TT:Nat}{ts:List af}{sl:Bool}{d:pz}(h:DistOK σ N g nE c TT ts sl d)(hr:RL nE 0 g):∃v,d 0=some v:=by
 obtain⟨l,hl⟩:=hr;obtain⟨v,h1,_⟩:=h.opt 0 _ (qh6 hl);exact⟨v,h1⟩
section
variable {n : c9} {m : List Int} {M : Nat} {σ : p2} {N g : Nat} {nE : List Eg} {c : Mk}
theorem q2o{w:Nat→Int}:∀{l:List Eg},(∀e∈l,0≤w e.2.2∧w e.2.2≤1048576)→0≤zx w l∧zx w l≤1048576*(l.length:Int)
 |[],_=>⟨Int.le_refl _,Int.le_refl _⟩
 |e::l,h=>by
  rw[qs,List.length_cons];have h1:=h e List.mem_cons_self;have h2:=q2o (l:=l) fun e' he' =>h e' (List.mem_cons_of_mem _ he')
  omega
theorem q3b(h:GG n m M σ N g nE c){ts:List af}(hts:c8 ts n.2.1.length=true){sl:Bool}(hc:qgf (fun e=>e∈ph c nE) (i5 ts sl) sl g){d:pz}(hs:Snd (fun e=>e∈nE) (i5 ts sl) g d)(ho:Opt (fun e=>e∈nE) (i5 ts sl) g sl d):∀i v,d i=some v→0≤v.1∧v.1≤104857600∧0≤v.2∧v.2≤100∧v.2≤(N:Int):=fun i v hv=>by
 obtain⟨l,h1,h2⟩:=qii (hs i v hv);obtain⟨l',h3,h4,h5⟩:=qe2 (fun e he=>(h.good e he).a) (qzd h hc) l.length l i (Nat.le_refl _) h1;obtain⟨v',h6,h7⟩:=ho i _ (qh6 h3);rw[hv]at h6;cases h6;rw[←h2]at h5;have h8:=qlr h5 h7;have h9:=q2o (w:=i5 ts sl) (l:=l') fun e he=>n8 hts sl _ (by rw[gq hts];exact(h.good e (yp h3 e he).1).t)
 have hN:=h.len.2;rw[←h8];simp only[];omega
theorem jbb(h:GG n m M σ N g nE c){ts:List af}(hts:c8 ts n.2.1.length=true):∃d,DistOK σ N g nE c n.2.1.length ts false d:=by
 have hc:qgf (fun e=>e∈ph c nE) (i5 ts false) false g:=q1s fun e he=>(n8 hts false e.2.2 (by rw[gq hts];exact(h.gl'.good e he).t)).1
 obtain⟨d,h1,h2,h3,h4⟩:=quc h hts hc;exact⟨d,h1,h2,h3,h4,q3b h hts hc h3 h4⟩
theorem jcg(h:GG n m M σ N g nE c){ts:List af}(hts:c8 ts n.2.1.length=true)(ho:¬Op ts (ph c nE)):∃d,DistOK σ N g nE c n.2.1.length ts true d:=by
 have hc:=q1t h hts ho;obtain⟨d,h1,h2,h3,h4⟩:=quc h hts hc;exact⟨d,h1,h2,h3,h4,q3b h hts hc h3 h4⟩
theorem jpg{ts:List af}{TT:Nat}(hts:c8 ts TT=true):Wt (fun t=>eo t ts) (i5 ts false) TT:=by
 refine⟨fun t ht=> ?_,fun t ht=>n8 hts false t (by rw[gq hts];exact ht)⟩;have:=gq hts;unfold eo;simp(disch:=omega)only[Int.toNat_natCast,rs];rfl
theorem jsj{ts:List af}{TT:Nat}(hts:c8 ts TT=true):Wt (fun t=>eu t ts) (i5 ts true) TT:=by
 refine⟨fun t ht=> ?_,fun t ht=>n8 hts true t (by rw[gq hts];exact ht)⟩;have:=gq hts;unfold eu;simp(disch:=omega)only[Int.toNat_natCast,rs];rfl
inductive LeftOK (σ : p2) (N g : Nat) (nE : List Eg) (c : Mk) (TT : Nat) (ts : List af) : af → Prop
 | opn (dF : pz) (v : xr) (hF : DistOK σ N g nE c TT ts false dF) (h0 : dF 0 = some v) (ho : Op ts (ph c nE)) (h1 : cr (gEs c nE) (g : Int) (N : Int) ts = some true) (h2 : fw (rGr σ N g nE c) ts = some true) : LeftOK σ N g nE c TT ts (v.1, 0, true, ())
 | cls (dF dS : pz) (v u : xr) (hF : DistOK σ N g nE c TT ts false dF) (h0 : dF 0 = some v) (ho : ¬ Op ts (ph c nE)) (h1 : cr (gEs c nE) (g : Int) (N : Int) ts = some false) (h2 : fw (rGr σ N g nE c) ts = some false) (hS : DistOK σ N g nE c TT ts true dS) (h3 : dS 0 = some u) : LeftOK σ N g nE c TT ts (v.1, u.1, false, ())
theorem qwm(h:GG n m M σ N g nE c)(hc:c 0=true){ts:List af}(hts:c8 ts n.2.1.length=true):∃B,LeftOK σ N g nE c n.2.1.length ts B:=by
 have htl:=gq hts;obtain⟨dF,hF⟩:=jbb h hts;have hr:=(h.leads 0).1 hc;obtain⟨v,hv⟩:=hF.at0 hr;obtain⟨b,h1,h2⟩:=jby (ts:=ts) (by rw[htl];exact h.gl') (q0s (ph c nE)) h.pos (g:Int) (N:Int);obtain⟨b',h3,h4⟩:=q14 h htl (g:Int);have hb:b=b' :=by
  rw[Bool.eq_iff_iff,h2,h4]
 subst hb;cases b with
 |true=>exact⟨_, .opn dF v hF hv (h2.1 rfl) h1 h3⟩
 |false=>
  have ho:¬Op ts (ph c nE):=fun h5=>by have:=h2.2 h5;cases this
  obtain⟨dS,hS⟩:=jcg h hts ho;obtain⟨u,hu⟩:=hS.at0 hr;exact⟨_, .cls dF dS v u hF hv ho h1 h3 hS hu⟩
theorem jb1(h:GG n m M σ N g nE c){ts:List af}(hts:c8 ts n.2.1.length=true){B:af}(hB:LeftOK σ N g nE c n.2.1.length ts B):fv (gEs c nE) (g:Int) (N:Int) ts=some B:=by
 have hN:=h.pos;unfold fv;cases hB with
 |opn dF v hF h0 ho h1 h2=>
  have e1:=hF.prg _ (jpg hts);have e2:(ng N dF).getD 0 ae.z=ns (dF 0):=v7 hN _;have e3:=za N dF;rw[q2y,e1];rw[h0]at e2;simp(disch:=omega)only[h1,e2,ns,rs]
 |cls dF dS v u hF h0 ho h1 h2 hS h3=>
  have e1:=hF.prg _ (jpg hts);have e2:(ng N dF).getD 0 ae.z=ns (dF 0):=v7 hN _;have e3:=za N dF;have e4:=hS.prg _ (jsj hts);have e5:(ng N dS).getD 0 ae.z=ns (dS 0):=v7 hN _;have e6:=za N dS;rw[q2y,jac,e1,e4];rw[h0]at e2;rw[h3]at e5;simp(disch:=omega)only[h1,e2,e5,ns,rs]
end
theorem qhh{n:c9}{m:List Int}{ts:List af}{most:Int}{e:Int}(he:e≠0)(h1:bc n m ts most=some ([],0,0,e)):dh n m ts most=some ((0,0,false,()),e):=by
 unfold dh;simp(disch:=omega)only[h1,decide_eq_false he,Bool.not_false,rs]
theorem qfr{n:c9}{m:List Int}{ts:List af}{most:Int}{M:List (Int×List ab)}{g N:Int}(h1:bc n m ts most=some (M,g,N,0))(hr:∃x,aq M g N=some (x,false)):dh n m ts most=some ((0,0,false,()),10):=by
 obtain⟨x,hx⟩:=hr;unfold dh;simp(disch:=omega)only[h1,hx,Bool.not_false,rs]
theorem qjg{n:c9}{m:List Int}{ts:List af}{most:Int}{σ:p2}{N g:Nat}{nE:List Eg}{c:Mk}(hG:GG n m most.toNat σ N g nE c)(hts:c8 ts n.2.1.length=true)(h1:bc n m ts most=some (gEs c nE,(g:Int),(N:Int),0))(hr:∃x,aq (gEs c nE) (g:Int) (N:Int)=some (x,true)){B:af}(hB:LeftOK σ N g nE c n.2.1.length ts B):dh n m ts most=some (B,0):=by
 obtain⟨x,hx⟩:=hr;have h3:=jb1 hG hts hB;unfold dh;simp(disch:=omega)only[h1,hx,h3,Bool.not_true,rs]
theorem qhs{n:c9}{m:List Int}{ts:List af}{most:Int}{e:Int}(he:e≠0)(h1:b7 n m ts most=some (zG,e)):kq n m ts most=some ((0,0,false,()),e):=by
 unfold kq;simp(disch:=omega)only[h1,decide_eq_false he,Bool.not_false,rs]
theorem qtv{n:c9}{m:List Int}{ts:List af}{most:Int}{σ:p2}{N g:Nat}{nE:List Eg}{c:Mk}(hN:0<N)(h1:b7 n m ts most=some (rGr σ N g nE c,0)){B:af}(hB:LeftOK σ N g nE c n.2.1.length ts B):kq n m ts most=some (B,0):=by
 unfold kq;cases hB with
 |opn dF v hF h0 ho h2 h3=>
  have e1:=hF.ref;have e2:(p5 N dF).getD 0 af.z=om (dF 0):=v8 hN _;have e3:=zb N dF;rw[h0]at e2;simp(disch:=omega)only[h1,e1,h3,e2,om,Bool.not_true,rs]
 |cls dF dS v u hF h0 ho h2 h3 hS h4=>
  have e1:=hF.ref;have e2:(p5 N dF).getD 0 af.z=om (dF 0):=v8 hN _;have e3:=zb N dF;have e4:=hS.ref;have e5:(p5 N dS).getD 0 af.z=om (dS 0):=v8 hN _;have e6:=zb N dS;rw[h0]at e2;rw[h4]at e5;simp(disch:=omega)only[h1,e1,h3,e2,e4,e5,om,Bool.not_true,rs]
theorem q7e{n:c9}{m:List Int}{M:Nat}{σ:p2}{N g:Nat}{nE:List Eg}{c:Mk}(h:GG n m M σ N g nE c){ts:List af}(hts:c8 ts n.2.1.length=true)(ho:¬Op ts (ph c nE)){dF dS:pz}{v u:xr}(hF:DistOK σ N g nE c n.2.1.length ts false dF)(hS:DistOK σ N g nE c n.2.1.length ts true dS)(h0:dF 0=some v)(h3:dS 0=some u):v.1≤u.1:=by
 obtain⟨l,hl,he⟩:=qii (hS.snd 0 u h3);obtain⟨v',h4,h5⟩:=hF.opt 0 _ (qh6 hl);rw[h0]at h4;cases h4;have h6:zx (i5 ts false) l≤zx (i5 ts true) l:=by
  have key:∀l:List Eg,(∀e∈l,i5 ts false e.2.2≤i5 ts true e.2.2)→zx (i5 ts false) l≤zx (i5 ts true) l:=fun l=>by
   induction l with
   |nil=>intro _;exact Int.le_refl _
   |cons e l ih=>
    intro h;rw[qs,qs];have h1:=h e List.mem_cons_self;have h2:=ih fun e' he' =>h e' (List.mem_cons_of_mem _ he')
    omega
  refine key l fun e hm=> ?_
  obtain⟨g1,g2,g3⟩:=yp hl e hm;have ht:e.2.2<ts.length:=by rw[gq hts];exact(h.good e g1).t
  have hb:=q4r hts ht;cases hop:opT ts e.2.2 with
  |true=>
   exfalso;exact ho ((h.op ts).2 ⟨e,g1,(h.leads _).2 g3, .inl hop⟩)
  |false=>exact hb.2.2.2.2.2 hop
 rw[he];unfold leV sg at h5;simp at h5;simp only[];omega
theorem q87{n:c9}{m:List Int}{ts:List af}{most:Int}(h:Res n m ts most):∃B e,dh n m ts most=some (B,e)∧kq n m ts most=some (B,e)∧(e=0→B.2.2.1=false→B.1≤B.2.1):=by
 cases h with
 |err e he h1 h2=>exact⟨_,e,qhh he h1,qhs he h2,fun h0=>absurd h0 he⟩
 |none M g N h1 hr h2=>exact⟨_,10,qfr h1 hr,qhs (by decide) h2,fun h0=>absurd h0 (by decide)⟩
 |ok σ N g nE c hG hc hv hm hts h1 hr h2=>
  obtain⟨B,hB⟩:=qwm hG hc hts;refine⟨B,0,qjg hG hts h1 hr hB,qtv hG.pos h2 hB,fun _ hb=> ?_⟩;cases hB with
  |opn dF v hF h0 ho h1 h2=>cases hb
  |cls dF dS v u hF h0 ho h1 h2 hS h3=>exact q7e hG hts ho hF hS h0 h3
end Go.Proofs.Ytokeielgplbdeaa
