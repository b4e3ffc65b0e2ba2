/-
  Predict: what is left, of program and reference.
-/
import Derived.Test.YtokeielgplbdeaaZ5C5
set_option linter.all false
namespace Go.Proofs.Ytokeielgplbdeaa
open Go.K Go.M
abbrev rGr(σ:qq)(N g:Nat)(nE:List Eg)(c:Mk):c6:=((σ.2.1,nE.map cw,σ.1,()),(g:Int),fv N c,())
inductive Res (n : dr) (m : List Int) (ts : List af) (most : Int) : Prop
 | err (e : Int) (he : e ≠ 0) (h1 : bp n m ts most = some ([], 0, 0, e)) (h2 : cn n m ts most = some (zG, e))
 | none (M : List (Int × List ab)) (g N : Int) (h1 : bp n m ts most = some (M, g, N, 0)) (hr : ∃ x, a9 M g N = some (x, false)) (h2 : cn n m ts most = some (zG, 10))
 | ok (σ : qq) (N g : Nat) (nE : List Eg) (c : Mk) (hG : GG n m most.toNat σ N g nE c) (hc : c 0 = true) (hv : em n = true) (hm : dg n.1 m = true) (hts : cq ts n.2.1.length = true) (h1 : bp n m ts most = some (gEs c nE, (g : Int), (N : Int), 0)) (hr : ∃ x, a9 (gEs c nE) (g : Int) (N : Int) = some (x, true)) (h2 : cn n m ts most = some (rGr σ N g nE c, 0))
theorem res{n:dr}(h:Small n)(htr:n.2.1.length≤20){m:List Int}(hl:m.length≤1000){ts:List af}(hts:ts.length≤1000){most:Int}(hmost:¬(100<most∧most≤2000)):Res n m ts most:=by
 have hg:=qjv h htr hl hts most;cases ht:cq ts n.2.1.length with
 |false=>
  rw[ht]at hg;exact .err 1 (by decide) hg (q6f h hl hts ht most)
 |true=>
  rw[ht]at hg;have hg:bp n m ts most=ay n m most:=hg;cases jjd h htr hl hmost with
  |err e he h1 h2=>exact .err e he (hg.trans h1) (h2 ts hts ht)
  |none σ N g nE c hG hc h1 hr h2=>exact .none _ _ _ (hg.trans h1) hr (h2 ts hts ht)
  |ok σ N g nE c hG hc hv hm h1 hr h2=>exact .ok σ N g nE c hG hc hv hm ht (hg.trans h1) hr (h2 ts hts ht)
structure DistOK (σ : qq) (N g : Nat) (nE : List Eg) (c : Mk) (TT : Nat) (ts : List af) (sl : Bool) (d : pd) : Prop where
 prg : ∀ W, Wt W (j9 ts sl) TT → qyu (gEs c nE) (g : Int) (N : Int) W sl = some (m9 N d)
 ref : d9 (rGr σ N g nE c) ts sl = some (p2 N d)
 snd : Snd (fun e => e ∈ nE) (j9 ts sl) g d
 opt : Opt (fun e => e ∈ nE) (j9 ts sl) g sl d
 bd : ∀ i v, d i = some v → 0 ≤ v.1 ∧ v.1 ≤ 104857600 ∧ 0 ≤ v.2 ∧ v.2 ≤ 100 ∧ v.2 ≤ (N : Int)
theorem DistOK.at0{σ:qq}{N g:Nat}{nE:List Eg}{c:Mk}{TT:Nat}{ts:List af}{sl:Bool}{d:pd}(h:DistOK σ N g nE c TT ts sl d)(hr:RL nE 0 g):∃v,d 0=some v:=by
 obtain⟨l,hl⟩:=hr;obtain⟨v,h1,_⟩:=h.opt 0 _ (zi hl);exact⟨v,h1⟩
section
variable {n : dr} {m : List Int} {M : Nat} {σ : qq} {N g : Nat} {nE : List Eg} {c : Mk}
theorem q7t{w:Nat→Int}:∀{l:List Eg},(∀e∈l,0≤w e.2.2∧w e.2.2≤1048576)→0≤wtL w l∧wtL w l≤1048576*(l.length:Int)
 |[],_=>⟨Int.le_refl _,Int.le_refl _⟩
 |e::l,h=>by
  rw[pc,List.length_cons];have h1:=h e List.mem_cons_self;have h2:=q7t (l:=l) fun e' he' =>h e' (List.mem_cons_of_mem _ he')
  omega
theorem q1c(h:GG n m M σ N g nE c){ts:List af}(hts:cq ts n.2.1.length=true){sl:Bool}(hc:qfa (fun e=>e∈qr c nE) (j9 ts sl) sl g){d:pd}(hs:Snd (fun e=>e∈nE) (j9 ts sl) g d)(ho:Opt (fun e=>e∈nE) (j9 ts sl) g sl d):∀i v,d i=some v→0≤v.1∧v.1≤104857600∧0≤v.2∧v.2≤100∧v.2≤(N:Int):=fun i v hv=>by
 obtain⟨l,h1,h2⟩:=qd2 (hs i v hv);obtain⟨l',h3,h4,h5⟩:=qdv (fun e he=>(h.good e he).a) (qxh h hc) l.length l i (Nat.le_refl _) h1;obtain⟨v',h6,h7⟩:=ho i _ (zi h3);rw[hv]at h6;cases h6;rw[←h2]at h5;have h8:=qj5 h5 h7;have h9:=q7t (w:=j9 ts sl) (l:=l') fun e he=>wv hts sl _ (by rw[j8 hts];exact(h.good e (qdb h3 e he).1).t)
 have hN:=h.len.2;rw[←h8];simp only[];omega
theorem q9b(h:GG n m M σ N g nE c){ts:List af}(hts:cq ts n.2.1.length=true):∃d,DistOK σ N g nE c n.2.1.length ts false d:=by
 have hc:qfa (fun e=>e∈qr c nE) (j9 ts false) false g:=qzs fun e he=>(wv hts false e.2.2 (by rw[j8 hts];exact(h.gl'.good e he).t)).1
 obtain⟨d,h1,h2,h3,h4⟩:=qso h hts hc;exact⟨d,h1,h2,h3,h4,q1c h hts hc h3 h4⟩
theorem jai(h:GG n m M σ N g nE c){ts:List af}(hts:cq ts n.2.1.length=true)(ho:¬Op ts (qr c nE)):∃d,DistOK σ N g nE c n.2.1.length ts true d:=by
 have hc:=qzt h hts ho;obtain⟨d,h1,h2,h3,h4⟩:=qso h hts hc;exact⟨d,h1,h2,h3,h4,q1c h hts hc h3 h4⟩
theorem jnn{ts:List af}{TT:Nat}(hts:cq ts TT=true):Wt (fun t=>fc t ts) (j9 ts false) TT:=by
 refine⟨fun t ht=> ?_,fun t ht=>wv hts false t (by rw[j8 hts];exact ht)⟩;have:=j8 hts;unfold fc;simp(disch:=omega)only[Int.toNat_natCast,rs];rfl
theorem jqp{ts:List af}{TT:Nat}(hts:cq ts TT=true):Wt (fun t=>fe t ts) (j9 ts true) TT:=by
 refine⟨fun t ht=> ?_,fun t ht=>wv hts true t (by rw[j8 hts];exact ht)⟩;have:=j8 hts;unfold fe;simp(disch:=omega)only[Int.toNat_natCast,rs];rfl
inductive LeftOK (σ : qq) (N g : Nat) (nE : List Eg) (c : Mk) (TT : Nat) (ts : List af) : af → Prop
 | opn (dF : pd) (v : ve) (hF : DistOK σ N g nE c TT ts false dF) (h0 : dF 0 = some v) (ho : Op ts (qr c nE)) (h1 : c7 (gEs c nE) (g : Int) (N : Int) ts = some true) (h2 : f9 (rGr σ N g nE c) ts = some true) : LeftOK σ N g nE c TT ts (v.1, 0, true, ())
 | cls (dF dS : pd) (v u : ve) (hF : DistOK σ N g nE c TT ts false dF) (h0 : dF 0 = some v) (ho : ¬ Op ts (qr c nE)) (h1 : c7 (gEs c nE) (g : Int) (N : Int) ts = some false) (h2 : f9 (rGr σ N g nE c) ts = some false) (hS : DistOK σ N g nE c TT ts true dS) (h3 : dS 0 = some u) : LeftOK σ N g nE c TT ts (v.1, u.1, false, ())
theorem qoc(h:GG n m M σ N g nE c)(hc:c 0=true){ts:List af}(hts:cq ts n.2.1.length=true):∃B,LeftOK σ N g nE c n.2.1.length ts B:=by
 have htl:=j8 hts;obtain⟨dF,hF⟩:=q9b h hts;have hr:=(h.leads 0).1 hc;obtain⟨v,hv⟩:=hF.at0 hr;obtain⟨b,h1,h2⟩:=q91 (ts:=ts) (by rw[htl];exact h.gl') (qyt (qr c nE)) h.pos (g:Int) (N:Int);obtain⟨b',h3,h4⟩:=qz5 h htl (g:Int);have hb:b=b' :=by
  rw[Bool.eq_iff_iff,h2,h4]
 subst hb;cases b with
 |true=>exact⟨_, .opn dF v hF hv (h2.1 rfl) h1 h3⟩
 |false=>
  have ho:¬Op ts (qr c nE):=fun h5=>by have:=h2.2 h5;cases this
  obtain⟨dS,hS⟩:=jai h hts ho;obtain⟨u,hu⟩:=hS.at0 hr;exact⟨_, .cls dF dS v u hF hv ho h1 h3 hS hu⟩
theorem q94(h:GG n m M σ N g nE c){ts:List af}(hts:cq ts n.2.1.length=true){B:af}(hB:LeftOK σ N g nE c n.2.1.length ts B):f8 (gEs c nE) (g:Int) (N:Int) ts=some B:=by
 have hN:=h.pos;unfold f8;cases hB with
 |opn dF v hF h0 ho h1 h2=>
  have e1:=hF.prg _ (jnn hts);have e2:(m9 N dF).getD 0 ae.z=nm (dF 0):=vg hN _;have e3:=yk N dF;rw[q0z,e1];rw[h0]at e2;simp(disch:=omega)only[h1,e2,nm,rs]
 |cls dF dS v u hF h0 ho h1 h2 hS h3=>
  have e1:=hF.prg _ (jnn hts);have e2:(m9 N dF).getD 0 ae.z=nm (dF 0):=vg hN _;have e3:=yk N dF;have e4:=hS.prg _ (jqp hts);have e5:(m9 N dS).getD 0 ae.z=nm (dS 0):=vg hN _;have e6:=yk N dS;rw[q0z,q8e,e1,e4];rw[h0]at e2;rw[h3]at e5;simp(disch:=omega)only[h1,e2,e5,nm,rs]
end
theorem yw{n:dr}{m:List Int}{ts:List af}{most:Int}{e:Int}(he:e≠0)(h1:bp n m ts most=some ([],0,0,e)):bi n m ts most=some ((0,0,false,()),e):=by
 unfold bi;simp(disch:=omega)only[h1,decide_eq_false he,Bool.not_false,rs]
theorem qem{n:dr}{m:List Int}{ts:List af}{most:Int}{M:List (Int×List ab)}{g N:Int}(h1:bp n m ts most=some (M,g,N,0))(hr:∃x,a9 M g N=some (x,false)):bi n m ts most=some ((0,0,false,()),10):=by
 obtain⟨x,hx⟩:=hr;unfold bi;simp(disch:=omega)only[h1,hx,Bool.not_false,rs]
theorem qa2{n:dr}{m:List Int}{ts:List af}{most:Int}{σ:qq}{N g:Nat}{nE:List Eg}{c:Mk}(hG:GG n m most.toNat σ N g nE c)(hts:cq ts n.2.1.length=true)(h1:bp n m ts most=some (gEs c nE,(g:Int),(N:Int),0))(hr:∃x,a9 (gEs c nE) (g:Int) (N:Int)=some (x,true)){B:af}(hB:LeftOK σ N g nE c n.2.1.length ts B):bi n m ts most=some (B,0):=by
 obtain⟨x,hx⟩:=hr;have h3:=q94 hG hts hB;unfold bi;simp(disch:=omega)only[h1,hx,h3,Bool.not_true,rs]
theorem qgi{n:dr}{m:List Int}{ts:List af}{most:Int}{e:Int}(he:e≠0)(h1:cn n m ts most=some (zG,e)):jd n m ts most=some ((0,0,false,()),e):=by
 unfold jd;simp(disch:=omega)only[h1,decide_eq_false he,Bool.not_false,rs]
theorem qr6{n:dr}{m:List Int}{ts:List af}{most:Int}{σ:qq}{N g:Nat}{nE:List Eg}{c:Mk}(hN:0<N)(h1:cn n m ts most=some (rGr σ N g nE c,0)){B:af}(hB:LeftOK σ N g nE c n.2.1.length ts B):jd n m ts most=some (B,0):=by
 unfold jd;cases hB with
 |opn dF v hF h0 ho h2 h3=>
  have e1:=hF.ref;have e2:(p2 N dF).getD 0 af.z=og (dF 0):=vi hN _;have e3:=yl N dF;rw[h0]at e2;simp(disch:=omega)only[h1,e1,h3,e2,og,Bool.not_true,rs]
 |cls dF dS v u hF h0 ho h2 h3 hS h4=>
  have e1:=hF.ref;have e2:(p2 N dF).getD 0 af.z=og (dF 0):=vi hN _;have e3:=yl N dF;have e4:=hS.ref;have e5:(p2 N dS).getD 0 af.z=og (dS 0):=vi hN _;have e6:=yl N dS;rw[h0]at e2;rw[h4]at e5;simp(disch:=omega)only[h1,e1,h3,e2,e4,e5,og,Bool.not_true,rs]
theorem jdj{n:dr}{m:List Int}{M:Nat}{σ:qq}{N g:Nat}{nE:List Eg}{c:Mk}(h:GG n m M σ N g nE c){ts:List af}(hts:cq ts n.2.1.length=true)(ho:¬Op ts (qr c nE)){dF dS:pd}{v u:ve}(hF:DistOK σ N g nE c n.2.1.length ts false dF)(hS:DistOK σ N g nE c n.2.1.length ts true dS)(h0:dF 0=some v)(h3:dS 0=some u):v.1≤u.1:=by
 obtain⟨l,hl,he⟩:=qd2 (hS.snd 0 u h3);obtain⟨v',h4,h5⟩:=hF.opt 0 _ (zi hl);rw[h0]at h4;cases h4;have h6:wtL (j9 ts false) l≤wtL (j9 ts true) l:=by
  have key:∀l:List Eg,(∀e∈l,j9 ts false e.2.2≤j9 ts true e.2.2)→wtL (j9 ts false) l≤wtL (j9 ts true) l:=fun l=>by
   induction l with
   |nil=>intro _;exact Int.le_refl _
   |cons e l ih=>
    intro h;rw[pc,pc];have h1:=h e List.mem_cons_self;have h2:=ih fun e' he' =>h e' (List.mem_cons_of_mem _ he')
    omega
  refine key l fun e hm=> ?_
  obtain⟨g1,g2,g3⟩:=qdb hl e hm;have ht:e.2.2<ts.length:=by rw[j8 hts];exact(h.good e g1).t
  have hb:=qv3 hts ht;cases hop:opT ts e.2.2 with
  |true=>
   exfalso;exact ho ((h.op ts).2 ⟨e,g1,(h.leads _).2 g3, .inl hop⟩)
  |false=>exact hb.2.2.2.2.2 hop
 rw[he];unfold leV sg at h5;simp at h5;simp only[];omega
theorem qqx{n:dr}{m:List Int}{ts:List af}{most:Int}(h:Res n m ts most):∃B e,bi n m ts most=some (B,e)∧jd n m ts most=some (B,e)∧(e=0→B.2.2.1=false→B.1≤B.2.1):=by
 cases h with
 |err e he h1 h2=>exact⟨_,e,yw he h1,qgi he h2,fun h0=>absurd h0 he⟩
 |none M g N h1 hr h2=>exact⟨_,10,qem h1 hr,qgi (by decide) h2,fun h0=>absurd h0 (by decide)⟩
 |ok σ N g nE c hG hc hv hm hts h1 hr h2=>
  obtain⟨B,hB⟩:=qoc hG hc hts;refine⟨B,0,qa2 hG hts h1 hr hB,qr6 hG.pos h2 hB,fun _ hb=> ?_⟩;cases hB with
  |opn dF v hF h0 ho h1 h2=>cases hb
  |cls dF dS v u hF h0 ho h1 h2 hS h3=>exact jdj hG hts ho hF hS h0 h3
end Go.Proofs.Ytokeielgplbdeaa
