/-
  Predict: what is left, of program and reference.
-/
import Derived.Test.YtokeielgplbdeaaZ8C5
set_option linter.all false
namespace Go.Proofs.Ytokeielgplbdeaa
open Go.K Go.M
abbrev rGr(σ:pb)(N g:Nat)(nE:List Eg)(c:Mk):cu:=((σ.2.1,nE.map cn,σ.1,()),(g:Int),fb N c,())
inductive Res (n : cj) (m : List Int) (ts : List af) (most : Int) : Prop
 | err (e : Int) (he : e ≠ 0) (h1 : bp n m ts most = some ([], 0, 0, e)) (h2 : ci n m ts most = some (zG, e))
 | none (M : List (Int × List ab)) (g N : Int) (h1 : bp n m ts most = some (M, g, N, 0)) (hr : ∃ x, az M g N = some (x, false)) (h2 : ci n m ts most = some (zG, 10))
 | ok (σ : pb) (N g : Nat) (nE : List Eg) (c : Mk) (hG : GG n m most.toNat σ N g nE c) (hc : c 0 = true) (hv : b9 n = true) (hm : c8 n.1 m = true) (hts : du ts n.2.1.length = true) (h1 : bp n m ts most = some (gEs c nE, (g : Int), (N : Int), 0)) (hr : ∃ x, az (gEs c nE) (g : Int) (N : Int) = some (x, true)) (h2 : ci n m ts most = some (rGr σ N g nE c, 0))
theorem res{n:cj}(h:Small n)(htr:n.2.1.length≤20){m:List Int}(hl:m.length≤1000){ts:List af}(hts:ts.length≤1000){most:Int}(hmost:¬(100<most∧most≤2000)):Res n m ts most:=by
 have hg:=qr3 h htr hl hts most;cases ht:du ts n.2.1.length with
 |false=>
  rw[ht]at hg;exact .err 1 (by decide) hg (jan h hl hts ht most)
 |true=>
  rw[ht]at hg;have hg:bp n m ts most=ao n m most:=hg;cases jnk h htr hl hmost with
  |err e he h1 h2=>exact .err e he (hg.trans h1) (h2 ts hts ht)
  |none σ N g nE c hG hc h1 hr h2=>exact .none _ _ _ (hg.trans h1) hr (h2 ts hts ht)
  |ok σ N g nE c hG hc hv hm h1 hr h2=>exact .ok σ N g nE c hG hc hv hm ht (hg.trans h1) hr (h2 ts hts ht)
structure DistOK (σ : pb) (N g : Nat) (nE : List Eg) (c : Mk) (TT : Nat) (ts : List af) (sl : Bool) (d : p0) : Prop where
 prg : ∀ W, Wt W (kd ts sl) TT → q2f (gEs c nE) (g : Int) (N : Int) W sl = some (nm N d)
 ref : d8 (rGr σ N g nE c) ts sl = some (qj N d)
 snd : Snd (fun e => e ∈ nE) (kd ts sl) g d
 opt : Opt (fun e => e ∈ nE) (kd ts sl) g sl d
 bd : ∀ i v, d i = some v → 0 ≤ v.1 ∧ v.1 ≤ 104857600 ∧ 0 ≤ v.2 ∧ v.2 ≤ 100 ∧ v.2 ≤ (N : Int)
theorem DistOK.at0{σ:pb}{N g:Nat}{nE:List Eg}{c:Mk}{TT:Nat}{ts:List af}{sl:Bool}{d:p0}(h:DistOK σ N g nE c TT ts sl d)(hr:RL nE 0 g):∃v,d 0=some v:=by
 obtain⟨l,hl⟩:=hr;obtain⟨v,h1,_⟩:=h.opt 0 _ (qaq hl);exact⟨v,h1⟩
section
variable {n : cj} {m : List Int} {M : Nat} {σ : pb} {N g : Nat} {nE : List Eg} {c : Mk}
theorem jb5{w:Nat→Int}:∀{l:List Eg},(∀e∈l,0≤w e.2.2∧w e.2.2≤1048576)→0≤wtL w l∧wtL w l≤1048576*(l.length:Int)
 |[],_=>⟨Int.le_refl _,Int.le_refl _⟩
 |e::l,h=>by
  rw[rm,List.length_cons];have h1:=h e List.mem_cons_self;have h2:=jb5 (l:=l) fun e' he' =>h e' (List.mem_cons_of_mem _ he')
  omega
theorem q41(h:GG n m M σ N g nE c){ts:List af}(hts:du ts n.2.1.length=true){sl:Bool}(hc:qgm (fun e=>e∈ov c nE) (kd ts sl) sl g){d:p0}(hs:Snd (fun e=>e∈nE) (kd ts sl) g d)(ho:Opt (fun e=>e∈nE) (kd ts sl) g sl d):∀i v,d i=some v→0≤v.1∧v.1≤104857600∧0≤v.2∧v.2≤100∧v.2≤(N:Int):=fun i v hv=>by
 obtain⟨l,h1,h2⟩:=qfb (hs i v hv);obtain⟨l',h3,h4,h5⟩:=qe2 (fun e he=>(h.good e he).a) (q02 h hc) l.length l i (Nat.le_refl _) h1;obtain⟨v',h6,h7⟩:=ho i _ (qaq h3);rw[hv]at h6;cases h6;rw[←h2]at h5;have h8:=qly h5 h7;have h9:=jb5 (w:=kd ts sl) (l:=l') fun e he=>ul hts sl _ (by rw[jl hts];exact(h.good e (y7 h3 e he).1).t)
 have hN:=h.len.2;rw[←h8];simp only[];omega
theorem jdg(h:GG n m M σ N g nE c){ts:List af}(hts:du ts n.2.1.length=true):∃d,DistOK σ N g nE c n.2.1.length ts false d:=by
 have hc:qgm (fun e=>e∈ov c nE) (kd ts false) false g:=q3g fun e he=>(ul hts false e.2.2 (by rw[jl hts];exact(h.gl'.good e he).t)).1
 obtain⟨d,h1,h2,h3,h4⟩:=qvp h hts hc;exact⟨d,h1,h2,h3,h4,q41 h hts hc h3 h4⟩
theorem jei(h:GG n m M σ N g nE c){ts:List af}(hts:du ts n.2.1.length=true)(ho:¬Op ts (ov c nE)):∃d,DistOK σ N g nE c n.2.1.length ts true d:=by
 have hc:=q3h h hts ho;obtain⟨d,h1,h2,h3,h4⟩:=qvp h hts hc;exact⟨d,h1,h2,h3,h4,q41 h hts hc h3 h4⟩
theorem jru{ts:List af}{TT:Nat}(hts:du ts TT=true):Wt (fun t=>ey t ts) (kd ts false) TT:=by
 refine⟨fun t ht=> ?_,fun t ht=>ul hts false t (by rw[jl hts];exact ht)⟩;have:=jl hts;unfold ey;simp(disch:=omega)only[Int.toNat_natCast,rs];rfl
theorem juu{ts:List af}{TT:Nat}(hts:du ts TT=true):Wt (fun t=>ez t ts) (kd ts true) TT:=by
 refine⟨fun t ht=> ?_,fun t ht=>ul hts true t (by rw[jl hts];exact ht)⟩;have:=jl hts;unfold ez;simp(disch:=omega)only[Int.toNat_natCast,rs];rfl
inductive LeftOK (σ : pb) (N g : Nat) (nE : List Eg) (c : Mk) (TT : Nat) (ts : List af) : af → Prop
 | opn (dF : p0) (v : xf) (hF : DistOK σ N g nE c TT ts false dF) (h0 : dF 0 = some v) (ho : Op ts (ov c nE)) (h1 : cx (gEs c nE) (g : Int) (N : Int) ts = some true) (h2 : f7 (rGr σ N g nE c) ts = some true) : LeftOK σ N g nE c TT ts (v.1, 0, true, ())
 | cls (dF dS : p0) (v u : xf) (hF : DistOK σ N g nE c TT ts false dF) (h0 : dF 0 = some v) (ho : ¬ Op ts (ov c nE)) (h1 : cx (gEs c nE) (g : Int) (N : Int) ts = some false) (h2 : f7 (rGr σ N g nE c) ts = some false) (hS : DistOK σ N g nE c TT ts true dS) (h3 : dS 0 = some u) : LeftOK σ N g nE c TT ts (v.1, u.1, false, ())
theorem qq0(h:GG n m M σ N g nE c)(hc:c 0=true){ts:List af}(hts:du ts n.2.1.length=true):∃B,LeftOK σ N g nE c n.2.1.length ts B:=by
 have htl:=jl hts;obtain⟨dF,hF⟩:=jdg h hts;have hr:=(h.leads 0).1 hc;obtain⟨v,hv⟩:=hF.at0 hr;obtain⟨b,h1,h2⟩:=jd4 (ts:=ts) (by rw[htl];exact h.gl') (q2e (ov c nE)) h.pos (g:Int) (N:Int);obtain⟨b',h3,h4⟩:=q3r h htl (g:Int);have hb:b=b' :=by
  rw[Bool.eq_iff_iff,h2,h4]
 subst hb;cases b with
 |true=>exact⟨_, .opn dF v hF hv (h2.1 rfl) h1 h3⟩
 |false=>
  have ho:¬Op ts (ov c nE):=fun h5=>by have:=h2.2 h5;cases this
  obtain⟨dS,hS⟩:=jei h hts ho;obtain⟨u,hu⟩:=hS.at0 hr;exact⟨_, .cls dF dS v u hF hv ho h1 h3 hS hu⟩
theorem jd7(h:GG n m M σ N g nE c){ts:List af}(hts:du ts n.2.1.length=true){B:af}(hB:LeftOK σ N g nE c n.2.1.length ts B):f6 (gEs c nE) (g:Int) (N:Int) ts=some B:=by
 have hN:=h.pos;unfold f6;cases hB with
 |opn dF v hF h0 ho h1 h2=>
  have e1:=hF.prg _ (jru hts);have e2:(nm N dF).getD 0 ae.z=n5 (dF 0):=wu hN _;have e3:=zp N dF;rw[q4o,e1];rw[h0]at e2;simp(disch:=omega)only[h1,e2,n5,rs]
 |cls dF dS v u hF h0 ho h1 h2 hS h3=>
  have e1:=hF.prg _ (jru hts);have e2:(nm N dF).getD 0 ae.z=n5 (dF 0):=wu hN _;have e3:=zp N dF;have e4:=hS.prg _ (juu hts);have e5:(nm N dS).getD 0 ae.z=n5 (dS 0):=wu hN _;have e6:=zp N dS;rw[q4o,jcm,e1,e4];rw[h0]at e2;rw[h3]at e5;simp(disch:=omega)only[h1,e2,e5,n5,rs]
end
theorem qhp{n:cj}{m:List Int}{ts:List af}{most:Int}{e:Int}(he:e≠0)(h1:bp n m ts most=some ([],0,0,e)):cw n m ts most=some ((0,0,false,()),e):=by
 unfold cw;simp(disch:=omega)only[h1,decide_eq_false he,Bool.not_false,rs]
theorem qfw{n:cj}{m:List Int}{ts:List af}{most:Int}{M:List (Int×List ab)}{g N:Int}(h1:bp n m ts most=some (M,g,N,0))(hr:∃x,az M g N=some (x,false)):cw n m ts most=some ((0,0,false,()),10):=by
 obtain⟨x,hx⟩:=hr;unfold cw;simp(disch:=omega)only[h1,hx,Bool.not_false,rs]
theorem qjf{n:cj}{m:List Int}{ts:List af}{most:Int}{σ:pb}{N g:Nat}{nE:List Eg}{c:Mk}(hG:GG n m most.toNat σ N g nE c)(hts:du ts n.2.1.length=true)(h1:bp n m ts most=some (gEs c nE,(g:Int),(N:Int),0))(hr:∃x,az (gEs c nE) (g:Int) (N:Int)=some (x,true)){B:af}(hB:LeftOK σ N g nE c n.2.1.length ts B):cw n m ts most=some (B,0):=by
 obtain⟨x,hx⟩:=hr;have h3:=jd7 hG hts hB;unfold cw;simp(disch:=omega)only[h1,hx,h3,Bool.not_true,rs]
theorem qh1{n:cj}{m:List Int}{ts:List af}{most:Int}{e:Int}(he:e≠0)(h1:ci n m ts most=some (zG,e)):lf n m ts most=some ((0,0,false,()),e):=by
 unfold lf;simp(disch:=omega)only[h1,decide_eq_false he,Bool.not_false,rs]
theorem qu7{n:cj}{m:List Int}{ts:List af}{most:Int}{σ:pb}{N g:Nat}{nE:List Eg}{c:Mk}(hN:0<N)(h1:ci n m ts most=some (rGr σ N g nE c,0)){B:af}(hB:LeftOK σ N g nE c n.2.1.length ts B):lf n m ts most=some (B,0):=by
 unfold lf;cases hB with
 |opn dF v hF h0 ho h2 h3=>
  have e1:=hF.ref;have e2:(qj N dF).getD 0 af.z=o6 (dF 0):=wv hN _;have e3:=zq N dF;rw[h0]at e2;simp(disch:=omega)only[h1,e1,h3,e2,o6,Bool.not_true,rs]
 |cls dF dS v u hF h0 ho h2 h3 hS h4=>
  have e1:=hF.ref;have e2:(qj N dF).getD 0 af.z=o6 (dF 0):=wv hN _;have e3:=zq N dF;have e4:=hS.ref;have e5:(qj N dS).getD 0 af.z=o6 (dS 0):=wv hN _;have e6:=zq N dS;rw[h0]at e2;rw[h4]at e5;simp(disch:=omega)only[h1,e1,h3,e2,e4,e5,o6,Bool.not_true,rs]
theorem jhm{n:cj}{m:List Int}{M:Nat}{σ:pb}{N g:Nat}{nE:List Eg}{c:Mk}(h:GG n m M σ N g nE c){ts:List af}(hts:du ts n.2.1.length=true)(ho:¬Op ts (ov c nE)){dF dS:p0}{v u:xf}(hF:DistOK σ N g nE c n.2.1.length ts false dF)(hS:DistOK σ N g nE c n.2.1.length ts true dS)(h0:dF 0=some v)(h3:dS 0=some u):v.1≤u.1:=by
 obtain⟨l,hl,he⟩:=qfb (hS.snd 0 u h3);obtain⟨v',h4,h5⟩:=hF.opt 0 _ (qaq hl);rw[h0]at h4;cases h4;have h6:wtL (kd ts false) l≤wtL (kd ts true) l:=by
  have key:∀l:List Eg,(∀e∈l,kd ts false e.2.2≤kd ts true e.2.2)→wtL (kd ts false) l≤wtL (kd ts true) l:=fun l=>by
   induction l with
   |nil=>intro _;exact Int.le_refl _
   |cons e l ih=>
    intro h;rw[rm,rm];have h1:=h e List.mem_cons_self;have h2:=ih fun e' he' =>h e' (List.mem_cons_of_mem _ he')
    omega
  refine key l fun e hm=> ?_
  obtain⟨g1,g2,g3⟩:=y7 hl e hm;have ht:e.2.2<ts.length:=by rw[jl hts];exact(h.good e g1).t
  have hb:=q6o hts ht;cases hop:opT ts e.2.2 with
  |true=>
   exfalso;exact ho ((h.op ts).2 ⟨e,g1,(h.leads _).2 g3, .inl hop⟩)
  |false=>exact hb.2.2.2.2.2 hop
 rw[he];unfold leV sg at h5;simp at h5;simp only[];omega
theorem jbg{n:cj}{m:List Int}{ts:List af}{most:Int}(h:Res n m ts most):∃B e,cw n m ts most=some (B,e)∧lf n m ts most=some (B,e)∧(e=0→B.2.2.1=false→B.1≤B.2.1):=by
 cases h with
 |err e he h1 h2=>exact⟨_,e,qhp he h1,qh1 he h2,fun h0=>absurd h0 he⟩
 |none M g N h1 hr h2=>exact⟨_,10,qfw h1 hr,qh1 (by decide) h2,fun h0=>absurd h0 (by decide)⟩
 |ok σ N g nE c hG hc hv hm hts h1 hr h2=>
  obtain⟨B,hB⟩:=qq0 hG hc hts;refine⟨B,0,qjf hG hts h1 hr hB,qu7 hG.pos h2 hB,fun _ hb=> ?_⟩;cases hB with
  |opn dF v hF h0 ho h1 h2=>cases hb
  |cls dF dS v u hF h0 ho h1 h2 hS h3=>exact jhm hG hts ho hF hS h0 h3
end Go.Proofs.Ytokeielgplbdeaa
