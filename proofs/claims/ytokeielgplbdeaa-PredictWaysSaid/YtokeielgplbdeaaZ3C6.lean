/-
  Predict: what is left, of program and reference.
-/
import Derived.Test.YtokeielgplbdeaaZ3C5
set_option linter.all false
namespace Go.Proofs.Ytokeielgplbdeaa
open Go.K Go.M
abbrev rGr(σ:q4)(N g:Nat)(nE:List Eg)(c:Mk):be:=((σ.2.1,nE.map cn,σ.1,()),(g:Int),fk N c,())
inductive Res (n : cx) (m : List Int) (ts : List af) (most : Int) : Prop
 | err (e : Int) (he : e ≠ 0) (h1 : bi n m ts most = some ([], 0, 0, e)) (h2 : bw n m ts most = some (zG, e))
 | none (M : List (Int × List ab)) (g N : Int) (h1 : bi n m ts most = some (M, g, N, 0)) (hr : ∃ x, au M g N = some (x, false)) (h2 : bw n m ts most = some (zG, 10))
 | ok (σ : q4) (N g : Nat) (nE : List Eg) (c : Mk) (hG : GG n m most.toNat σ N g nE c) (hc : c 0 = true) (hv : ey n = true) (hm : di n.1 m = true) (hts : df ts n.2.1.length = true) (h1 : bi n m ts most = some (gEs c nE, (g : Int), (N : Int), 0)) (hr : ∃ x, au (gEs c nE) (g : Int) (N : Int) = some (x, true)) (h2 : bw n m ts most = some (rGr σ N g nE c, 0))
theorem res{n:cx}(h:Small n)(htr:n.2.1.length≤20){m:List Int}(hl:m.length≤1000){ts:List af}(hts:ts.length≤1000){most:Int}(hmost:¬(100<most∧most≤2000)):Res n m ts most:=by
 have hg:=q2h h htr hl hts most;cases ht:df ts n.2.1.length with
 |false=>
  rw[ht]at hg;exact .err 1 (by decide) hg (jb6 h hl hts ht most)
 |true=>
  rw[ht]at hg;have hg:bi n m ts most=a8 n m most:=hg;cases jty h htr hl hmost with
  |err e he h1 h2=>exact .err e he (hg.trans h1) (h2 ts hts ht)
  |none σ N g nE c hG hc h1 hr h2=>exact .none _ _ _ (hg.trans h1) hr (h2 ts hts ht)
  |ok σ N g nE c hG hc hv hm h1 hr h2=>exact .ok σ N g nE c hG hc hv hm ht (hg.trans h1) hr (h2 ts hts ht)
structure DistOK (σ : q4) (N g : Nat) (nE : List Eg) (c : Mk) (TT : Nat) (ts : List af) (sl : Bool) (d : pz) : Prop where
 prg : ∀ W, Wt W (kj ts sl) TT → q4i (gEs c nE) (g : Int) (N : Int) W sl = some (m8 N d)
 ref : cw (rGr σ N g nE c) ts sl = some (p1 N d)
 snd : Snd (fun e => e ∈ nE) (kj ts sl) g d
 opt : Opt (fun e => e ∈ nE) (kj ts sl) g sl d
 bd : ∀ i v, d i = some v → 0 ≤ v.1 ∧ v.1 ≤ 104857600 ∧ 0 ≤ v.2 ∧ v.2 ≤ 100
theorem DistOK.at0{σ:q4}{N g:Nat}{nE:List Eg}{c:Mk}{TT:Nat}{ts:List af}{sl:Bool}{d:pz}(h:DistOK σ N g nE c TT ts sl d)(hr:RL nE 0 g):∃v,d 0=some v:=by
 obtain⟨l,hl⟩:=hr;obtain⟨v,h1,_⟩:=h.opt 0 _ (qin hl);exact⟨v,h1⟩
section
variable {n : cx} {m : List Int} {M : Nat} {σ : q4} {N g : Nat} {nE : List Eg} {c : Mk}
theorem jdl{w:Nat→Int}:∀{l:List Eg},(∀e∈l,0≤w e.2.2∧w e.2.2≤1048576)→0≤wtL w l∧wtL w l≤1048576*(l.length:Int)
 |[],_=>⟨Int.le_refl _,Int.le_refl _⟩
 |e::l,h=>by
  rw[tx,List.length_cons];have h1:=h e List.mem_cons_self;have h2:=jdl (l:=l) fun e' he' =>h e' (List.mem_cons_of_mem _ he')
  omega
theorem q61(h:GG n m M σ N g nE c){ts:List af}(hts:df ts n.2.1.length=true){sl:Bool}(hc:qgq (fun e=>e∈sj c nE) (kj ts sl) sl g){d:pz}(hs:Snd (fun e=>e∈nE) (kj ts sl) g d)(ho:Opt (fun e=>e∈nE) (kj ts sl) g sl d):∀i v,d i=some v→0≤v.1∧v.1≤104857600∧0≤v.2∧v.2≤100:=fun i v hv=>by
 obtain⟨l,h1,h2⟩:=qiz (hs i v hv);obtain⟨l',h3,h4,h5⟩:=qe7 (fun e he=>(h.good e he).a) (q2z h hc) l.length l i (Nat.le_refl _) h1;obtain⟨v',h6,h7⟩:=ho i _ (qin h3);rw[hv]at h6;cases h6;rw[←h2]at h5;have h8:=qms h5 h7;have h9:=jdl (w:=kj ts sl) (l:=l') fun e he=>tw hts sl _ (by rw[im hts];exact(h.good e (qml h3 e he).1).t)
 have hN:=h.len.2;rw[←h8];simp only[];omega
theorem q68(h:GG n m M σ N g nE c){ts:List af}(hts:df ts n.2.1.length=true):∃d,DistOK σ N g nE c n.2.1.length ts false d:=by
 have hc:qgq (fun e=>e∈sj c nE) (kj ts false) false g:=q5h fun e he=>(tw hts false e.2.2 (by rw[im hts];exact(h.gl'.good e he).t)).1
 obtain⟨d,h1,h2,h3,h4⟩:=qxv h hts hc;exact⟨d,h1,h2,h3,h4,q61 h hts hc h3 h4⟩
theorem jf5(h:GG n m M σ N g nE c){ts:List af}(hts:df ts n.2.1.length=true)(ho:¬Op ts (sj c nE)):∃d,DistOK σ N g nE c n.2.1.length ts true d:=by
 have hc:=q5i h hts ho;obtain⟨d,h1,h2,h3,h4⟩:=qxv h hts hc;exact⟨d,h1,h2,h3,h4,q61 h hts hc h3 h4⟩
theorem js6{ts:List af}{TT:Nat}(hts:df ts TT=true):Wt (fun t=>em t ts) (kj ts false) TT:=by
 refine⟨fun t ht=> ?_,fun t ht=>tw hts false t (by rw[im hts];exact ht)⟩;have:=im hts;unfold em;simp(disch:=omega)only[Int.toNat_natCast,rs];rfl
theorem jv9{ts:List af}{TT:Nat}(hts:df ts TT=true):Wt (fun t=>eo t ts) (kj ts true) TT:=by
 refine⟨fun t ht=> ?_,fun t ht=>tw hts true t (by rw[im hts];exact ht)⟩;have:=im hts;unfold eo;simp(disch:=omega)only[Int.toNat_natCast,rs];rfl
inductive LeftOK (σ : q4) (N g : Nat) (nE : List Eg) (c : Mk) (TT : Nat) (ts : List af) : af → Prop
 | opn (dF : pz) (v : x0) (hF : DistOK σ N g nE c TT ts false dF) (h0 : dF 0 = some v) (ho : Op ts (sj c nE)) (h1 : ct (gEs c nE) (g : Int) (N : Int) ts = some true) (h2 : eb (rGr σ N g nE c) ts = some true) : LeftOK σ N g nE c TT ts (v.1, 0, true, ())
 | cls (dF dS : pz) (v u : x0) (hF : DistOK σ N g nE c TT ts false dF) (h0 : dF 0 = some v) (ho : ¬ Op ts (sj c nE)) (h1 : ct (gEs c nE) (g : Int) (N : Int) ts = some false) (h2 : eb (rGr σ N g nE c) ts = some false) (hS : DistOK σ N g nE c TT ts true dS) (h3 : dS 0 = some u) : LeftOK σ N g nE c TT ts (v.1, u.1, false, ())
theorem q7i(h:GG n m M σ N g nE c)(hc:c 0=true){ts:List af}(hts:df ts n.2.1.length=true):∃B,LeftOK σ N g nE c n.2.1.length ts B:=by
 have htl:=im hts;obtain⟨dF,hF⟩:=q68 h hts;have hr:=(h.leads 0).1 hc;obtain⟨v,hv⟩:=hF.at0 hr;obtain⟨b,h1,h2⟩:=jfn (ts:=ts) (by rw[htl];exact h.gl') (q4h (sj c nE)) h.pos (g:Int) (N:Int);obtain⟨b',h3,h4⟩:=q5v h htl (g:Int);have hb:b=b' :=by
  rw[Bool.eq_iff_iff,h2,h4]
 subst hb;cases b with
 |true=>exact⟨_, .opn dF v hF hv (h2.1 rfl) h1 h3⟩
 |false=>
  have ho:¬Op ts (sj c nE):=fun h5=>by have:=h2.2 h5;cases this
  obtain⟨dS,hS⟩:=jf5 h hts ho;obtain⟨u,hu⟩:=hS.at0 hr;exact⟨_, .cls dF dS v u hF hv ho h1 h3 hS hu⟩
theorem jfq(h:GG n m M σ N g nE c){ts:List af}(hts:df ts n.2.1.length=true){B:af}(hB:LeftOK σ N g nE c n.2.1.length ts B):fw (gEs c nE) (g:Int) (N:Int) ts=some B:=by
 have hN:=h.pos;unfold fw;cases hB with
 |opn dF v hF h0 ho h1 h2=>
  have e1:=hF.prg _ (js6 hts);have e2:(m8 N dF).getD 0 ae.z=nq (dF 0):=vq hN _;have e3:=y4 N dF;rw[q6o,e1];rw[h0]at e2;simp(disch:=omega)only[h1,e2,nq,rs]
 |cls dF dS v u hF h0 ho h1 h2 hS h3=>
  have e1:=hF.prg _ (js6 hts);have e2:(m8 N dF).getD 0 ae.z=nq (dF 0):=vq hN _;have e3:=y4 N dF;have e4:=hS.prg _ (jv9 hts);have e5:(m8 N dS).getD 0 ae.z=nq (dS 0):=vq hN _;have e6:=y4 N dS;rw[q6o,jd4,e1,e4];rw[h0]at e2;rw[h3]at e5;simp(disch:=omega)only[h1,e2,e5,nq,rs]
end
theorem qu3{n:cx}{m:List Int}{ts:List af}{most:Int}{e:Int}(he:e≠0)(h1:bi n m ts most=some ([],0,0,e)):fl n m ts most=some ((0,0,false,()),e):=by
 unfold fl;simp(disch:=omega)only[h1,decide_eq_false he,Bool.not_false,rs]
theorem qrz{n:cx}{m:List Int}{ts:List af}{most:Int}{M:List (Int×List ab)}{g N:Int}(h1:bi n m ts most=some (M,g,N,0))(hr:∃x,au M g N=some (x,false)):fl n m ts most=some ((0,0,false,()),10):=by
 obtain⟨x,hx⟩:=hr;unfold fl;simp(disch:=omega)only[h1,hx,Bool.not_false,rs]
theorem qwt{n:cx}{m:List Int}{ts:List af}{most:Int}{σ:q4}{N g:Nat}{nE:List Eg}{c:Mk}(hG:GG n m most.toNat σ N g nE c)(hts:df ts n.2.1.length=true)(h1:bi n m ts most=some (gEs c nE,(g:Int),(N:Int),0))(hr:∃x,au (gEs c nE) (g:Int) (N:Int)=some (x,true)){B:af}(hB:LeftOK σ N g nE c n.2.1.length ts B):fl n m ts most=some (B,0):=by
 obtain⟨x,hx⟩:=hr;have h3:=jfq hG hts hB;unfold fl;simp(disch:=omega)only[h1,hx,h3,Bool.not_true,rs]
theorem qia{n:cx}{m:List Int}{ts:List af}{most:Int}{e:Int}(he:e≠0)(h1:bw n m ts most=some (zG,e)):kh n m ts most=some ((0,0,false,()),e):=by
 unfold kh;simp(disch:=omega)only[h1,decide_eq_false he,Bool.not_false,rs]
theorem qxd{n:cx}{m:List Int}{ts:List af}{most:Int}{σ:q4}{N g:Nat}{nE:List Eg}{c:Mk}(hN:0<N)(h1:bw n m ts most=some (rGr σ N g nE c,0)){B:af}(hB:LeftOK σ N g nE c n.2.1.length ts B):kh n m ts most=some (B,0):=by
 unfold kh;cases hB with
 |opn dF v hF h0 ho h2 h3=>
  have e1:=hF.ref;have e2:(p1 N dF).getD 0 af.z=oq (dF 0):=vx hN _;have e3:=y5 N dF;rw[h0]at e2;simp(disch:=omega)only[h1,e1,h3,e2,oq,Bool.not_true,rs]
 |cls dF dS v u hF h0 ho h2 h3 hS h4=>
  have e1:=hF.ref;have e2:(p1 N dF).getD 0 af.z=oq (dF 0):=vx hN _;have e3:=y5 N dF;have e4:=hS.ref;have e5:(p1 N dS).getD 0 af.z=oq (dS 0):=vx hN _;have e6:=y5 N dS;rw[h0]at e2;rw[h4]at e5;simp(disch:=omega)only[h1,e1,h3,e2,e4,e5,oq,Bool.not_true,rs]
theorem ji6{n:cx}{m:List Int}{M:Nat}{σ:q4}{N g:Nat}{nE:List Eg}{c:Mk}(h:GG n m M σ N g nE c){ts:List af}(hts:df ts n.2.1.length=true)(ho:¬Op ts (sj c nE)){dF dS:pz}{v u:x0}(hF:DistOK σ N g nE c n.2.1.length ts false dF)(hS:DistOK σ N g nE c n.2.1.length ts true dS)(h0:dF 0=some v)(h3:dS 0=some u):v.1≤u.1:=by
 obtain⟨l,hl,he⟩:=qiz (hS.snd 0 u h3);obtain⟨v',h4,h5⟩:=hF.opt 0 _ (qin hl);rw[h0]at h4;cases h4;have h6:wtL (kj ts false) l≤wtL (kj ts true) l:=by
  have key:∀l:List Eg,(∀e∈l,kj ts false e.2.2≤kj ts true e.2.2)→wtL (kj ts false) l≤wtL (kj ts true) l:=fun l=>by
   induction l with
   |nil=>intro _;exact Int.le_refl _
   |cons e l ih=>
    intro h;rw[tx,tx];have h1:=h e List.mem_cons_self;have h2:=ih fun e' he' =>h e' (List.mem_cons_of_mem _ he')
    omega
  refine key l fun e hm=> ?_
  obtain⟨g1,g2,g3⟩:=qml hl e hm;have ht:e.2.2<ts.length:=by rw[im hts];exact(h.good e g1).t
  have hb:=q8i hts ht;cases hop:opT ts e.2.2 with
  |true=>
   exfalso;exact ho ((h.op ts).2 ⟨e,g1,(h.leads _).2 g3, .inl hop⟩)
  |false=>exact hb.2.2.2.2.2 hop
 rw[he];unfold leV sg at h5;simp at h5;simp only[];omega
theorem jcy{n:cx}{m:List Int}{ts:List af}{most:Int}(h:Res n m ts most):∃B e,fl n m ts most=some (B,e)∧kh n m ts most=some (B,e)∧(e=0→B.2.2.1=false→B.1≤B.2.1):=by
 cases h with
 |err e he h1 h2=>exact⟨_,e,qu3 he h1,qia he h2,fun h0=>absurd h0 he⟩
 |none M g N h1 hr h2=>exact⟨_,10,qrz h1 hr,qia (by decide) h2,fun h0=>absurd h0 (by decide)⟩
 |ok σ N g nE c hG hc hv hm hts h1 hr h2=>
  obtain⟨B,hB⟩:=q7i hG hc hts;refine⟨B,0,qwt hG hts h1 hr hB,qxd hG.pos h2 hB,fun _ hb=> ?_⟩;cases hB with
  |opn dF v hF h0 ho h1 h2=>cases hb
  |cls dF dS v u hF h0 ho h1 h2 hS h3=>exact ji6 hG hts ho hF hS h0 h3
end Go.Proofs.Ytokeielgplbdeaa
