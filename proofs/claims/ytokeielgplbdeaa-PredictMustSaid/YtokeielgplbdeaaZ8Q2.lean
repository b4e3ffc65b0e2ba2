/-
  Predict: Must.
-/
import Derived.Test.YtokeielgplbdeaaZ8Q1
set_option linter.all false
namespace Go.Proofs.Ytokeielgplbdeaa
open Go.K Go.M
theorem qok{n:cj}(h:Small n)(htr:n.2.1.length≤20)(hv:b9 n=true){m:List Int}{most:Int}{B:af}{e:Int}(hr:cw n m (qau n.2.1.length) most=some (B,e)):ot n m most=some (B,e):=by
 have hV:=qb9 h;have h1:=q77 n.2.1.length htr;rw[hv]at hV;unfold ot qex;simp(disch:=omega)only[hV,h1,hr,Bool.not_true,rs]
theorem q5d{n:cj}{M:Nat}{m:List Int}{σ:pb}(h:SpcOK n M m σ)(hf:σ.1=true):∀{ks:List Nat} {x y:List Int},x∈σ.2.1→Fs n x ks y→y∈σ.2.1
 |[],x,y,hx,hy=>by rw[←show x=y from hy];exact hx
 |t::ks,x,y,hx,⟨h1,h2,h3⟩=>by
  obtain⟨i,hi,rfl⟩:=ig [] hx;obtain⟨b,hb⟩:=h.full hf i t hi h1 h2;obtain⟨a',b',t',e,g1,g2,_,_,g5⟩:=h.mv _ hb;obtain⟨rfl,rfl,rfl⟩:=jdw e;refine q5d h hf ?_ h3;rw[show ca (oi n t) (σ.2.1.getD i [])=c7 σ b from g5];exact aw [] g2
section
variable {n : cj} {m : List Int} {most : Int} {σ : pb} {N g : Nat} {nE : List Eg} {c : Mk}
theorem q9t(h:GG n m most.toNat σ N g nE c)(hmost:most≤60)(hv:b9 n=true)(hi:∀T∈n.2.1,T.2.1.length≤20)(ho:∀T∈n.2.1,T.2.2.1.length≤20){t:Nat}(ht:t<n.2.1.length)(h39:n.1≤39):
  ∃B e,ot (exN n t) (m++[0]) most=some (B,e)∧(e=0∧(∃ks,Cmp n m ks∧t∉ks)∨e=10∧∀ks,Cmp n m ks→t∈ks):=by
 have hpos:=h.pos;have hl:=h.ok.sp.len;rw[←h.eN]at hl;have h0:=h.ok.fst;have hm:=h.mark hpos;rw[h0]at hm;have hml:=(ja.1 hm).1;obtain⟨b1,b2,b3,b4,_⟩:=ru hv;have hS:=q0d ht h.tr hi ho;have hxl:(exN n t).2.1.length≤20:=by show(exT n t).length≤20;rw[qeb];exact h.tr
 have hvx:b9 (exN n t)=true:=by rw[q0e hv ht];exact decide_eq_true h39
 have hmx:c8 (exN n t).1 (m++[0])=true:=q49 hm;have hlx:(m++[0]).length≤1000:=by rw[List.length_append,List.length_singleton];omega
 have hlo:(qau (exN n t).2.1.length).length=(exN n t).2.1.length:=List.length_replicate;have hg:=qr3 hS hxl hlx (ts:=qau (exN n t).2.1.length) (by omega) most;rw[vy]at hg;have hg:bp (exN n t) (m++[0]) (qau (exN n t).2.1.length) most=ao (exN n t) (m++[0]) most:=hg;have hin:m++[0]∈σ.2.1.map fun y=>y++[0]:=List.mem_map.2 ⟨m,by rw[←h0];exact aw [] (by rw[←h.eN];exact hpos),rfl⟩
 have hf:=q9f (jhz h.clo hv ht) hin (by omega);have hno:(∀ks,¬Cmp (exN n t) (m++[0]) ks)→∀ks,Cmp n m ks→t∈ks:=fun hn ks hc=>Classical.byContradiction fun ht' =>hn ks ((q9r hv ht hml).2 ⟨hc,ht'⟩)
 cases jnk hS hxl hlx (most:=most) (by omega)with
 |err e he h1 h2=>
  obtain⟨rfl,hnf⟩:=q9z hS hxl hlx hmost (by omega) hvx hmx hf he h1;refine⟨_,10,qok hS hxl hvx (qhp (by decide) (hg.trans h1)), .inr ⟨rfl,hno fun ks hc=>hnf ?_⟩⟩;have hok:=q31 (n:=exN n t) (M:=most.toNat) hmx (by omega);have hx0:m++[0]∈(spc (exN n t) most.toNat (m++[0])).2.1:=by
   have h1:=hok.fst;have h2:=aw ([]:List Int) hok.sp.pos;rw[show(spc (exN n t) most.toNat (m++[0])).2.1.getD 0 []=m++[0]from h1]at h2;exact h2
  exact q5d hok hf hx0 hc
 |none σ' N' g' nE' c' hG hc' h1 hr h2=>
  refine⟨_,10,qok hS hxl hvx (qfw (hg.trans h1) hr), .inr ⟨rfl,hno fun ks hc=> ?_⟩⟩;have h3:=hG.ok.fst;obtain⟨l,hw,_⟩:=hG.ofCmp hG.pos (i:=0) (ks:=ks) (by rw[h3];exact hc);rw[(hG.leads 0).2 ⟨l,hw⟩]at hc';cases hc'
 |ok σ' N' g' nE' c' hG hc' hv' hm' h1 hr h2=>
  obtain⟨B,hB⟩:=qq0 hG hc' (vy _);have h3:=hG.ok.fst;refine⟨B,0,qok hS hxl hvx (qjf hG (vy _) (hg.trans h1) hr hB), .inl ⟨rfl,?_⟩⟩;obtain⟨l,hw⟩:=(hG.leads 0).1 hc';have hc:=hG.toCmp hw;rw[h3]at hc;exact⟨_,(q9r hv ht hml).1 hc⟩
end
theorem q7w(L:List Eg)(g T:Nat):(o7 L g T).Pairwise (·<·):=by
 unfold o7;rw[List.pairwise_map];refine(List.Pairwise.sublist (List.filter_sublist (p:=fun t=> !qbb L g t)) List.pairwise_lt_range).imp fun h=> ?_
 omega
theorem jak(a b:Int):y0 a b=some (decide (a<b)):=by
 unfold y0 wm;simp(disch:=omega)only[Bool.not_true,rs]
theorem q8h{l:List Int}(hl:l.length≤100000)(h:l.Pairwise (·<·)):jj l=some true:=by
 have key:∀(f:Nat) (i:Int),i+1=(f:Int)→f≤l.length→la (fun a=>de l a (fun a' =>some (.next a')) (fun e=>some (.done e)) (fun r=>some (.ret r))) (f+1) i=some (.inl ()):=by
  intro f
  induction f with
  |zero=>
   intro i hi hfl;rw[a8];simp(disch:=omega)only[de,rs];rfl
  |succ f ih=>
   intro i hi hfl;by_cases h0:f=0
   ·subst h0;rw[a8];simp(disch:=omega)only[de,rs];rfl
   ·have ih:=ih (i-1) (by omega) (by omega);have hlt:l.getD (f-1) 0<l.getD f 0:=by
     rw[jx l (f-1) 0 (by omega),jx l f 0 (by omega)];exact List.pairwise_iff_getElem.1 h _ _ _ _ (by omega)
    have hcm:=jak (l.getD i.toNat 0) (l.getD (i-1).toNat 0);rw[show i.toNat=f by omega,show(i-1).toNat=f-1 by omega,decide_eq_false (show¬l.getD f 0<l.getD (f-1) 0 by omega)]at hcm;rw[a8,←ih];have e1:i.toNat=f:=by omega
    have e2:(i-1).toNat=f-1:=by omega
    simp(disch:=omega)only[de,e1,e2,hcm,rs];rfl
 have hL:qg l ((l.length:Int)-1)=some (.inl ()):=ib (key l.length ((l.length:Int)-1) (by omega) (Nat.le_refl _)) (bm (by omega));unfold jj;simp(disch:=omega)only[hL,rs]
theorem q6r(l:List ag)(h:l.length≤100000):cp l=some l:=by
 unfold cp dk;simp(disch:=omega)only[List.nil_append,rs]
section
variable {n : cj} {m : List Int} {most : Int} {σ : pb} {N g : Nat} {nE : List Eg} {c : Mk}
theorem q7v(h:GG n m most.toNat σ N g nE c)(hc:c 0=true)(hmost:most≤60)(hv:b9 n=true)(hi:∀T∈n.2.1,T.2.1.length≤20)(ho:∀T∈n.2.1,T.2.2.1.length≤20):∀(f k:Nat),k+f=n.2.1.length→
  ∃r:Unit⊕Bool,la (fun a=>ec m most (o7 (ov c nE) g n.2.1.length) (n.2.1.length:Int) n.1 n.2.1 n.2.2.1 n.2.2.2.1 a (fun a' =>some (.next a')) (fun e=>some (.done e)) (fun r=>some (.ret r))) (f+1) (k:Int)=some r∧(r= .inl ()∨r= .inr true):=by
 have htr:=h.tr;have hlo:(qau n.2.1.length).length=n.2.1.length:=List.length_replicate;obtain⟨B0,hB0⟩:=qq0 h hc (ts:=qau n.2.1.length) (vy _);have hsp:=jnq h (vy _) hB0;obtain⟨b1,b2,b3,b4,_⟩:=ru hv;have hm:=h.mark h.pos;rw[h.ok.fst]at hm;have hml:=(ja.1 hm).1;have hmlen:=qcn (ov c nE) g n.2.1.length;intro f
 induction f with
 |zero=>
  intro k hk;refine⟨.inl (),?_, .inl rfl⟩;rw[a8,show k=n.2.1.length by omega];simp(disch:=omega)only[ec,rs];rfl
 |succ f ih=>
  intro k hk;have hkl:k<n.2.1.length:=by omega
  have hcT:=q6r n.2.1 (by omega);have hii:(oi n k).2.1.length≤20:=hi _ (aw ag.z hkl);have hcI:=qkz (oi n k).2.1 (by omega);have hcM:=qkz m (by omega);have hV:=qa6 (q0d hkl htr hi ho);rw[q0e hv hkl]at hV;have hV:pr (n.1+1,n.2.1.set k ((n.2.1.getD k ag.z).1,(n.2.1.getD k ag.z).2.1++[n.1],(n.2.1.getD k ag.z).2.2.1,()),n.2.2.1,n.2.2.2.1,())=some (decide (n.1≤39)):=hV;have hcI:cq (n.2.1.getD k ag.z).2.1=some (n.2.1.getD k ag.z).2.1:=hcI;have hii:(n.2.1.getD k ag.z).2.1.length≤20:=hii;have hC:=qzn (o7 (ov c nE) g n.2.1.length) (by omega) (k:Int);by_cases h39:n.1≤39
  ·rw[decide_eq_true h39]at hV;obtain⟨B,e,hst,hcase⟩:=q9t h hmost hv hi ho hkl h39;have hst:ot (n.1+1,n.2.1.set k ((n.2.1.getD k ag.z).1,(n.2.1.getD k ag.z).2.1++[n.1],(n.2.1.getD k ag.z).2.2.1,()),n.2.2.1,n.2.2.2.1,()) (m++[0]) most=some (B,e):=hst;obtain⟨r,q1,q2⟩:=ih (k+1) (by omega);refine⟨r,?_,q2⟩;rw[←q1,a8];rcases hcase with⟨rfl,ks,hk1,hk2⟩|⟨rfl,hall⟩
   ·have hmem:jaq (o7 (ov c nE) g n.2.1.length) (k:Int)=false:=by
     unfold jaq;refine List.any_eq_false.2 fun x hx hxe=> ?_
     have hxe:=of_decide_eq_true hxe;subst hxe;obtain⟨t,e1,_,hall⟩:=(hsp.must _).1 hx;have:t=k:=by omega
     subst this;exact hk2 (hall ks hk1)
    rw[hmem]at hC;simp(disch:=omega)only[ec,hcT,hcI,hcM,hV,hst,hC,Bool.not_true,Bool.not_false,al,rs];rfl
   ·have hmem:jaq (o7 (ov c nE) g n.2.1.length) (k:Int)=true:=by
     unfold jaq;exact List.any_eq_true.2 ⟨_,(hsp.must _).2 ⟨k,rfl,hkl,hall⟩,decide_eq_true rfl⟩
    rw[hmem]at hC;simp(disch:=omega)only[ec,hcT,hcI,hcM,hV,hst,hC,Bool.not_true,Bool.not_false,al,rs];rfl
  ·rw[decide_eq_false h39]at hV;refine⟨.inr true,?_, .inr rfl⟩;have h40:decide (n.1=40)=true:=decide_eq_true (by omega);rw[a8];simp(disch:=omega)only[ec,hcT,hcI,hV,h40,Bool.not_false,rs];rfl
end
theorem jsf(n:cj)(m:List Int)(most:Int):tq n m most=some true:=by
 obtain⟨b,hb,hf⟩:=jh0 n m [];unfold tq;cases b with
 |false=>
  simp(disch:=omega)only[qgp,hb,Bool.not_true,Bool.not_false,rs]
 |true=>
  by_cases h60:60<most
  ·simp(disch:=omega)only[qgp,hb,Bool.not_true,Bool.not_false,rs]
  ·have hF:=hf rfl;obtain⟨a1,a2,a3,_⟩:=jh1 hF;cases q00 a1 a2 a3 (most:=most) (by omega)with
   |err e he h1 h2=>
    simp(disch:=omega)only[qgp,hb,h1,decide_eq_false he,Bool.not_true,Bool.not_false,rs];rfl
   |ok σ N g nE c hG hc h1 h2=>
    have hv:b9 n=true:=by
     cases hv:b9 n with
     |true=>rfl
     |false=>
      exfalso;have hV:=qb9 a1;rw[hv]at hV;have:gh n m most=some (1,[]):=by
       unfold gh;simp(disch:=omega)only[hV,Bool.not_false,rs]
      rw[this]at h1;cases h1
    have hmlen:=qcn (ov c nE) g n.2.1.length;have hso:=q8h (by omega) (q7w (ov c nE) g n.2.1.length);obtain⟨b1,b2,b3,b4,_⟩:=ru hv;have hRF:=qpp (n:=n) (by omega);have hol:decide (((qcq n.1 n.2.2.2.1).length:Int)=n.1)=true:=decide_eq_true (by rw[ja3];omega);obtain⟨r,q1,q2⟩:=q7v hG hc (by omega) hv hF.ins hF.outs n.2.1.length 0 (by omega);have hL:ym m most (o7 (ov c nE) g n.2.1.length) (n.2.1.length:Int) n.1 n.2.1 n.2.2.1 n.2.2.2.1 0=some r:=ib q1 (bm (by omega));rcases q2 with rfl|rfl
    ·simp(disch:=omega)only[qgp,hb,h1,hso,hL,hRF,hol,Bool.not_true,Bool.not_false,rs]
    ·simp(disch:=omega)only[qgp,hb,h1,hso,hL,Bool.not_true,Bool.not_false,rs]
end Go.Proofs.Ytokeielgplbdeaa
