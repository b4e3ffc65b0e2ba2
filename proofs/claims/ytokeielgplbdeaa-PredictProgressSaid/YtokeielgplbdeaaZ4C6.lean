/-
  Predict: what is left, of program and reference.
-/
import Derived.Test.YtokeielgplbdeaaZ4C5
set_option linter.all false
namespace Go.Proofs.Ytokeielgplbdeaa
open Go.K Go.M
abbrev rGr(σ:ox)(N g:Nat)(nE:List Eg)(c:Mk):cw:=((σ.2.1,nE.map cr,σ.1,()),(g:Int),fb N c,())
inductive Res (n : c8) (m : List Int) (ts : List af) (most : Int) : Prop
 | err (e : Int) (he : e ≠ 0) (h1 : bk n m ts most = some ([], 0, 0, e)) (h2 : cm n m ts most = some (zG, e))
 | none (M : List (Int × List ab)) (g N : Int) (h1 : bk n m ts most = some (M, g, N, 0)) (hr : ∃ x, ax M g N = some (x, false)) (h2 : cm n m ts most = some (zG, 10))
 | ok (σ : ox) (N g : Nat) (nE : List Eg) (c : Mk) (hG : GG n m most.toNat σ N g nE c) (hc : c 0 = true) (hv : db n = true) (hm : de n.1 m = true) (hts : c7 ts n.2.1.length = true) (h1 : bk n m ts most = some (gEs c nE, (g : Int), (N : Int), 0)) (hr : ∃ x, ax (gEs c nE) (g : Int) (N : Int) = some (x, true)) (h2 : cm n m ts most = some (rGr σ N g nE c, 0))
theorem res{n:c8}(h:Small n)(htr:n.2.1.length≤20){m:List Int}(hl:m.length≤1000){ts:List af}(hts:ts.length≤1000){most:Int}(hmost:¬(100<most∧most≤2000)):Res n m ts most:=by
 have hg:=qks h htr hl hts most;cases ht:c7 ts n.2.1.length with
 |false=>
  rw[ht]at hg;exact .err 1 (by decide) hg (q7l h hl hts ht most)
 |true=>
  rw[ht]at hg;have hg:bk n m ts most=ao n m most:=hg;cases jkl h htr hl hmost with
  |err e he h1 h2=>exact .err e he (hg.trans h1) (h2 ts hts ht)
  |none σ N g nE c hG hc h1 hr h2=>exact .none _ _ _ (hg.trans h1) hr (h2 ts hts ht)
  |ok σ N g nE c hG hc hv hm h1 hr h2=>exact .ok σ N g nE c hG hc hv hm ht (hg.trans h1) hr (h2 ts hts ht)
structure DistOK (σ : ox) (N g : Nat) (nE : List Eg) (c : Mk) (TT : Nat) (ts : List af) (sl : Bool) (d : pp) : Prop where
 prg : ∀ W, Wt W (gg ts sl) TT → qzy (gEs c nE) (g : Int) (N : Int) W sl = some (nh N d)
 ref : dx (rGr σ N g nE c) ts sl = some (p9 N d)
 snd : Snd (fun e => e ∈ nE) (gg ts sl) g d
 opt : Opt (fun e => e ∈ nE) (gg ts sl) g sl d
 bd : ∀ i v, d i = some v → 0 ≤ v.1 ∧ v.1 ≤ 104857600 ∧ 0 ≤ v.2 ∧ v.2 ≤ 100 ∧ v.2 ≤ (N : Int)
theorem DistOK.at0{σ:ox}{N g:Nat}{nE:List Eg}{c:Mk}{TT:Nat}{ts:List af}{sl:Bool}{d:pp}(h:DistOK σ N g nE c TT ts sl d)(hr:RL nE 0 g):∃v,d 0=some v:=by
 obtain⟨l,hl⟩:=hr;obtain⟨v,h1,_⟩:=h.opt 0 _ (qaa hl);exact⟨v,h1⟩
section
variable {n : c8} {m : List Int} {M : Nat} {σ : ox} {N g : Nat} {nE : List Eg} {c : Mk}
theorem q1s{w:Nat→Int}:∀{l:List Eg},(∀e∈l,0≤w e.2.2∧w e.2.2≤1048576)→0≤tz w l∧tz w l≤1048576*(l.length:Int)
 |[],_=>⟨Int.le_refl _,Int.le_refl _⟩
 |e::l,h=>by
  rw[po,List.length_cons];have h1:=h e List.mem_cons_self;have h2:=q1s (l:=l) fun e' he' =>h e' (List.mem_cons_of_mem _ he')
  omega
theorem q2i(h:GG n m M σ N g nE c){ts:List af}(hts:c7 ts n.2.1.length=true){sl:Bool}(hc:qga (fun e=>e∈oz c nE) (gg ts sl) sl g){d:pp}(hs:Snd (fun e=>e∈nE) (gg ts sl) g d)(ho:Opt (fun e=>e∈nE) (gg ts sl) g sl d):∀i v,d i=some v→0≤v.1∧v.1≤104857600∧0≤v.2∧v.2≤100∧v.2≤(N:Int):=fun i v hv=>by
 obtain⟨l,h1,h2⟩:=qe3 (hs i v hv);obtain⟨l',h3,h4,h5⟩:=qet (fun e he=>(h.good e he).a) (qyk h hc) l.length l i (Nat.le_refl _) h1;obtain⟨v',h6,h7⟩:=ho i _ (qaa h3);rw[hv]at h6;cases h6;rw[←h2]at h5;have h8:=qk6 h5 h7;have h9:=q1s (w:=gg ts sl) (l:=l') fun e he=>oe hts sl _ (by rw[gz hts];exact(h.good e (yn h3 e he).1).t)
 have hN:=h.len.2;rw[←h8];simp only[];omega
theorem jah(h:GG n m M σ N g nE c){ts:List af}(hts:c7 ts n.2.1.length=true):∃d,DistOK σ N g nE c n.2.1.length ts false d:=by
 have hc:qga (fun e=>e∈oz c nE) (gg ts false) false g:=q0w fun e he=>(oe hts false e.2.2 (by rw[gz hts];exact(h.gl'.good e he).t)).1
 obtain⟨d,h1,h2,h3,h4⟩:=qtn h hts hc;exact⟨d,h1,h2,h3,h4,q2i h hts hc h3 h4⟩
theorem jbo(h:GG n m M σ N g nE c){ts:List af}(hts:c7 ts n.2.1.length=true)(ho:¬Op ts (oz c nE)):∃d,DistOK σ N g nE c n.2.1.length ts true d:=by
 have hc:=q0x h hts ho;obtain⟨d,h1,h2,h3,h4⟩:=qtn h hts hc;exact⟨d,h1,h2,h3,h4,q2i h hts hc h3 h4⟩
theorem jov{ts:List af}{TT:Nat}(hts:c7 ts TT=true):Wt (fun t=>ey t ts) (gg ts false) TT:=by
 refine⟨fun t ht=> ?_,fun t ht=>oe hts false t (by rw[gz hts];exact ht)⟩;have:=gz hts;unfold ey;simp(disch:=omega)only[Int.toNat_natCast,rs];rfl
theorem jrx{ts:List af}{TT:Nat}(hts:c7 ts TT=true):Wt (fun t=>ez t ts) (gg ts true) TT:=by
 refine⟨fun t ht=> ?_,fun t ht=>oe hts true t (by rw[gz hts];exact ht)⟩;have:=gz hts;unfold ez;simp(disch:=omega)only[Int.toNat_natCast,rs];rfl
inductive LeftOK (σ : ox) (N g : Nat) (nE : List Eg) (c : Mk) (TT : Nat) (ts : List af) : af → Prop
 | opn (dF : pp) (v : wi) (hF : DistOK σ N g nE c TT ts false dF) (h0 : dF 0 = some v) (ho : Op ts (oz c nE)) (h1 : cx (gEs c nE) (g : Int) (N : Int) ts = some true) (h2 : f5 (rGr σ N g nE c) ts = some true) : LeftOK σ N g nE c TT ts (v.1, 0, true, ())
 | cls (dF dS : pp) (v u : wi) (hF : DistOK σ N g nE c TT ts false dF) (h0 : dF 0 = some v) (ho : ¬ Op ts (oz c nE)) (h1 : cx (gEs c nE) (g : Int) (N : Int) ts = some false) (h2 : f5 (rGr σ N g nE c) ts = some false) (hS : DistOK σ N g nE c TT ts true dS) (h3 : dS 0 = some u) : LeftOK σ N g nE c TT ts (v.1, u.1, false, ())
theorem qpg(h:GG n m M σ N g nE c)(hc:c 0=true){ts:List af}(hts:c7 ts n.2.1.length=true):∃B,LeftOK σ N g nE c n.2.1.length ts B:=by
 have htl:=gz hts;obtain⟨dF,hF⟩:=jah h hts;have hr:=(h.leads 0).1 hc;obtain⟨v,hv⟩:=hF.at0 hr;obtain⟨b,h1,h2⟩:=ja6 (ts:=ts) (by rw[htl];exact h.gl') (qzx (oz c nE)) h.pos (g:Int) (N:Int);obtain⟨b',h3,h4⟩:=q07 h htl (g:Int);have hb:b=b' :=by
  rw[Bool.eq_iff_iff,h2,h4]
 subst hb;cases b with
 |true=>exact⟨_, .opn dF v hF hv (h2.1 rfl) h1 h3⟩
 |false=>
  have ho:¬Op ts (oz c nE):=fun h5=>by have:=h2.2 h5;cases this
  obtain⟨dS,hS⟩:=jbo h hts ho;obtain⟨u,hu⟩:=hS.at0 hr;exact⟨_, .cls dF dS v u hF hv ho h1 h3 hS hu⟩
theorem ja9(h:GG n m M σ N g nE c){ts:List af}(hts:c7 ts n.2.1.length=true){B:af}(hB:LeftOK σ N g nE c n.2.1.length ts B):fy (gEs c nE) (g:Int) (N:Int) ts=some B:=by
 have hN:=h.pos;unfold fy;cases hB with
 |opn dF v hF h0 ho h1 h2=>
  have e1:=hF.prg _ (jov hts);have e2:(nh N dF).getD 0 ae.z=nu (dF 0):=v6 hN _;have e3:=za N dF;rw[q14,e1];rw[h0]at e2;simp(disch:=omega)only[h1,e2,nu,rs]
 |cls dF dS v u hF h0 ho h1 h2 hS h3=>
  have e1:=hF.prg _ (jov hts);have e2:(nh N dF).getD 0 ae.z=nu (dF 0):=v6 hN _;have e3:=za N dF;have e4:=hS.prg _ (jrx hts);have e5:(nh N dS).getD 0 ae.z=nu (dS 0):=v6 hN _;have e6:=za N dS;rw[q14,q9l,e1,e4];rw[h0]at e2;rw[h3]at e5;simp(disch:=omega)only[h1,e2,e5,nu,rs]
end
theorem zk{n:c8}{m:List Int}{ts:List af}{most:Int}{e:Int}(he:e≠0)(h1:bk n m ts most=some ([],0,0,e)):b8 n m ts most=some ((0,0,false,()),e):=by
 unfold b8;simp(disch:=omega)only[h1,decide_eq_false he,Bool.not_false,rs]
theorem x0{n:c8}{m:List Int}{ts:List af}{most:Int}{M:List (Int×List ab)}{g N:Int}(h1:bk n m ts most=some (M,g,N,0))(hr:∃x,ax M g N=some (x,false)):b8 n m ts most=some ((0,0,false,()),10):=by
 obtain⟨x,hx⟩:=hr;unfold b8;simp(disch:=omega)only[h1,hx,Bool.not_false,rs]
theorem qbu{n:c8}{m:List Int}{ts:List af}{most:Int}{σ:ox}{N g:Nat}{nE:List Eg}{c:Mk}(hG:GG n m most.toNat σ N g nE c)(hts:c7 ts n.2.1.length=true)(h1:bk n m ts most=some (gEs c nE,(g:Int),(N:Int),0))(hr:∃x,ax (gEs c nE) (g:Int) (N:Int)=some (x,true)){B:af}(hB:LeftOK σ N g nE c n.2.1.length ts B):b8 n m ts most=some (B,0):=by
 obtain⟨x,hx⟩:=hr;have h3:=ja9 hG hts hB;unfold b8;simp(disch:=omega)only[h1,hx,h3,Bool.not_true,rs]
theorem qhk{n:c8}{m:List Int}{ts:List af}{most:Int}{e:Int}(he:e≠0)(h1:cm n m ts most=some (zG,e)):kw n m ts most=some ((0,0,false,()),e):=by
 unfold kw;simp(disch:=omega)only[h1,decide_eq_false he,Bool.not_false,rs]
theorem qs5{n:c8}{m:List Int}{ts:List af}{most:Int}{σ:ox}{N g:Nat}{nE:List Eg}{c:Mk}(hN:0<N)(h1:cm n m ts most=some (rGr σ N g nE c,0)){B:af}(hB:LeftOK σ N g nE c n.2.1.length ts B):kw n m ts most=some (B,0):=by
 unfold kw;cases hB with
 |opn dF v hF h0 ho h2 h3=>
  have e1:=hF.ref;have e2:(p9 N dF).getD 0 af.z=ou (dF 0):=v7 hN _;have e3:=zb N dF;rw[h0]at e2;simp(disch:=omega)only[h1,e1,h3,e2,ou,Bool.not_true,rs]
 |cls dF dS v u hF h0 ho h2 h3 hS h4=>
  have e1:=hF.ref;have e2:(p9 N dF).getD 0 af.z=ou (dF 0):=v7 hN _;have e3:=zb N dF;have e4:=hS.ref;have e5:(p9 N dS).getD 0 af.z=ou (dS 0):=v7 hN _;have e6:=zb N dS;rw[h0]at e2;rw[h4]at e5;simp(disch:=omega)only[h1,e1,h3,e2,e4,e5,ou,Bool.not_true,rs]
theorem jes{n:c8}{m:List Int}{M:Nat}{σ:ox}{N g:Nat}{nE:List Eg}{c:Mk}(h:GG n m M σ N g nE c){ts:List af}(hts:c7 ts n.2.1.length=true)(ho:¬Op ts (oz c nE)){dF dS:pp}{v u:wi}(hF:DistOK σ N g nE c n.2.1.length ts false dF)(hS:DistOK σ N g nE c n.2.1.length ts true dS)(h0:dF 0=some v)(h3:dS 0=some u):v.1≤u.1:=by
 obtain⟨l,hl,he⟩:=qe3 (hS.snd 0 u h3);obtain⟨v',h4,h5⟩:=hF.opt 0 _ (qaa hl);rw[h0]at h4;cases h4;have h6:tz (gg ts false) l≤tz (gg ts true) l:=by
  have key:∀l:List Eg,(∀e∈l,gg ts false e.2.2≤gg ts true e.2.2)→tz (gg ts false) l≤tz (gg ts true) l:=fun l=>by
   induction l with
   |nil=>intro _;exact Int.le_refl _
   |cons e l ih=>
    intro h;rw[po,po];have h1:=h e List.mem_cons_self;have h2:=ih fun e' he' =>h e' (List.mem_cons_of_mem _ he')
    omega
  refine key l fun e hm=> ?_
  obtain⟨g1,g2,g3⟩:=yn hl e hm;have ht:e.2.2<ts.length:=by rw[gz hts];exact(h.good e g1).t
  have hb:=qw4 hts ht;cases hop:opT ts e.2.2 with
  |true=>
   exfalso;exact ho ((h.op ts).2 ⟨e,g1,(h.leads _).2 g3, .inl hop⟩)
  |false=>exact hb.2.2.2.2.2 hop
 rw[he];unfold leV sg at h5;simp at h5;simp only[];omega
theorem q8e{n:c8}{m:List Int}{ts:List af}{most:Int}(h:Res n m ts most):∃B e,b8 n m ts most=some (B,e)∧kw n m ts most=some (B,e)∧(e=0→B.2.2.1=false→B.1≤B.2.1):=by
 cases h with
 |err e he h1 h2=>exact⟨_,e,zk he h1,qhk he h2,fun h0=>absurd h0 he⟩
 |none M g N h1 hr h2=>exact⟨_,10,x0 h1 hr,qhk (by decide) h2,fun h0=>absurd h0 (by decide)⟩
 |ok σ N g nE c hG hc hv hm hts h1 hr h2=>
  obtain⟨B,hB⟩:=qpg hG hc hts;refine⟨B,0,qbu hG hts h1 hr hB,qs5 hG.pos h2 hB,fun _ hb=> ?_⟩;cases hB with
  |opn dF v hF h0 ho h1 h2=>cases hb
  |cls dF dS v u hF h0 ho h1 h2 hS h3=>exact jes hG hts ho hF hS h0 h3
end Go.Proofs.Ytokeielgplbdeaa
