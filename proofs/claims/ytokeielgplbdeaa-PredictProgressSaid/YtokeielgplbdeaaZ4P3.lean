/-
  Predict: Progress.
-/
import Derived.Test.YtokeielgplbdeaaZ4P2
set_option linter.all false
namespace Go.Proofs.Ytokeielgplbdeaa
open Go.K Go.M
section
variable {n : c8} {m : List Int} {most : Int} {σ : ox} {N g : Nat} {nE : List Eg} {c : Mk}
theorem q7v(h:GG n m most.toNat σ N g nE c)(hS:Small n)(hmost:most≤60)(hv:db n=true){ts:List af}(hts:c7 ts n.2.1.length=true)(htl:ts.length≤1000){b:Nat}(hb:b<N):
  b8 n (bu σ b) ts most=some ((0,0,false,()),10)∨∃B mu,b8 n (bu σ b) ts most=some (B,0)∧ea n (bu σ b) most=some (0,mu)∧mu.length≤100∧Sp n ts (bu σ b) B mu:=by
 have hm:=h.mark hb;have hml:=(ko.1 hm).1;have hN:1≤n.1∧n.1≤40:=by
  unfold db at hv;simp only[Bool.and_eq_true,decide_eq_true_eq]at hv;exact hv.1.1.1.1
 have hpos:=h.pos;have hl:=h.ok.sp.len;rw[←h.eN]at hl;have hg:=qks hS h.tr (m:=bu σ b) (by omega) (ts:=ts) htl most;rw[hts]at hg;have hg:bk n (bu σ b) ts most=ao n (bu σ b) most:=hg;have hf:=q6l h.clo (x:=bu σ b) (aw [] (by rw[←h.eN];exact hb)) (by omega);cases jkl hS h.tr (m:=bu σ b) (by omega) (most:=most) (by omega)with
 |err e he h1 h2=>
  have:=q6z hS h.tr (by omega) hmost (by omega) hv hm hf he h1;subst this;exact .inl (zk (by decide) (hg.trans h1))
 |none σ' N' g' nE' c' hG hc h1 hr h2=>exact .inl (x0 (hg.trans h1) hr)
 |ok σ' N' g' nE' c' hG hc hv' hm' h1 hr h2=>
  obtain⟨B,hB⟩:=qpg hG hc hts;have:=qcf (oz c' nE') g' n.2.1.length;have:=h.tr;exact .inr ⟨B,_,qbu hG hts (hg.trans h1) hr hB,qyx hS hG hv h1 hr,by omega,jci hG hts hB⟩
end
theorem q8x{mu mu' :List Int}{t:Int}(hm:mu.length≤1000)(hm' :mu'.length≤1000)(h:∀k∈mu,k≠t→k∈mu'):ed mu t mu' =some false:=by
 have h1:∀k∈mu,i9 k t mu' =some false:=fun k hk=>by
  unfold i9;by_cases hkt:k=t
  ·subst hkt;simp(disch:=omega)only[Bool.not_true,rs]
  ·have:=jha (l:=mu') (by omega) (h k hk hkt);simp(disch:=omega)only[decide_eq_false hkt,this,Bool.not_false,Bool.not_true,rs]
 have hL:m6 mu t mu' (mu.length:Int) 0=some (.inl ()):=by
  refine iz (fun k:Nat=>(k:Int)) mu.length (bh (by omega)) _ (fun k hk=> ?_) ?_ _ rfl
  ·have hx:=h1 _ (aw 0 hk);simp(disch:=omega)only[ek,hx,aj,rs]
  ·simp(disch:=omega)only[ek,rs]
 unfold ed j2;simp(disch:=omega)only[hL,rs];rfl
section
variable {n : c8} {m : List Int} {most : Int} {σ : ox} {N g : Nat} {nE : List Eg} {c : Mk}
theorem jbb(h:GG n m most.toNat σ N g nE c)(hS:Small n)(hmost:most≤60)(hv:db n=true){ts:List af}(hts:c7 ts n.2.1.length=true)(htl:ts.length≤1000){b:Nat}(hb:b<N){B:af}{mu:List Int}(hmu:mu.length≤100)(hsp:Sp n ts (bu σ b) B mu){cc:Int}(hcc:0≤cc∧cc≤255)(en v81:List Int)(v82 v83 f0 f1:Int)(f2:Bool)(l:List Int)(hl:l.length≤1000):
  d8 ts most en (bu σ b) mu cc v81 v82 v83 n.1 n.2.1 n.2.2.1 n.2.2.2.1 f0 f1 f2 B.1 B.2.1 B.2.2.1 l=some (.inr true)∨
  ∃b' t B' mu',b' <N∧t<n.2.1.length∧jl (wh n t) (bu σ b)=true∧ce (wh n t) (bu σ b)=bu σ b' ∧mu'.length≤100∧Sp n ts (bu σ b') B' mu' ∧
   d8 ts most en (bu σ b) mu cc v81 v82 v83 n.1 n.2.1 n.2.2.1 n.2.2.2.1 f0 f1 f2 B.1 B.2.1 B.2.2.1 l=some (.inl (bu σ b',B'.1,B'.2.1,B'.2.2.1,mu',l++[(t:Int)])):=by
 have hm:=h.mark hb;have hml:=(ko.1 hm).1;have hN:1≤n.1∧n.1≤40:=by
  unfold db at hv;simp only[Bool.and_eq_true,decide_eq_true_eq]at hv;exact hv.1.1.1.1
 have hT:=gz hts;have hE:=o4 hS (bu σ b) (by omega);rw[hv,hm]at hE;obtain⟨cn,rfl⟩:∃cn:Nat,cc=(cn:Int):=⟨cc.toNat,by omega⟩;have hcc:=hcc.2;unfold d8;by_cases h0:(enL n (bu σ b)).length=0
 ·left;simp(disch:=omega)only[dq,hE,Bool.true_and,Bool.not_true,rs]
 ·have htr:=h.tr;have hlen:(enL n (bu σ b)).length=(enN n (bu σ b) n.2.1.length).length:=List.length_map _;have hel:(enL n (bu σ b)).length≤n.2.1.length:=by
   rw[hlen];unfold enN;have:=List.length_filter_le (fun j=>jl (n.2.1.getD j ai.z) (bu σ b)) (List.range n.2.1.length);rwa[List.length_range]at this
  have e3:Int.tmod (cn:Int) ((enL n (bu σ b)).length:Int)=((cn % (enL n (bu σ b)).length:Nat):Int):=rfl;have hk:cn % (enL n (bu σ b)).length<(enL n (bu σ b)).length:=Nat.mod_lt _ (by omega);generalize cn % (enL n (bu σ b)).length=k at e3 hk;have hg:(enL n (bu σ b)).getD k 0=(((enN n (bu σ b) n.2.1.length).getD k 0:Nat):Int):=gv _ _ _ 0 _ (by omega);obtain⟨ht,hca⟩:=q2m.1 (aw 0 (show k<(enN n (bu σ b) n.2.1.length).length by omega));generalize(enN n (bu σ b) n.2.1.length).getD k 0=t at hg ht hca;have hca:jl (wh n t) (bu σ b)=true:=hca;have hin:=h.clo.cl _ (aw [] (by rw[←h.eN];exact hb)) t ht hca;obtain⟨b',hb',hbe⟩:=i5 [] hin;rw[←h.eN]at hb';have hbe:ce (wh n t) (bu σ b)=bu σ b' :=hbe.symm;have hF:=q1v hS hv hm ht;have hfp:=qxx (q2r hS hv hm ht) hca;have hbe' :ce (n.2.1.getD t ai.z) (bu σ b)=bu σ b' :=hbe;rw[hfp,hbe',h.mark hb']at hF;have hnz:decide (((enL n (bu σ b)).length:Int)=0)=false:=decide_eq_false (by omega);rcases q7v h hS hmost hv hts htl hb' with hr|⟨B',mu',hr,hmr,hml',hsp'⟩
  ·left;simp(disch:=omega)only[dq,hE,hnz,e3,hg,hF,hr,Int.toNat_natCast,Bool.true_and,Bool.not_true,Bool.not_false,rs];rfl
  ·right;refine⟨b',t,B',mu',hb',ht,hca,hbe,hml',hsp',?_⟩;have hno:=jaz ht hca hsp (by rw[hbe];exact hsp');have hst:=q8x (t:=(t:Int)) (mu:=mu) (mu' :=mu') (by omega) (by omega) hno.mu;have hT0:i7 ts most en mu (bu σ b') v81 v82 v83 n.1 n.2.1 n.2.2.1 n.2.2.2.1 f0 f1 f2 B.1 B.2.1 B.2.2.1 l (t:Int) B'.1 B'.2.1 B'.2.2.1=some (.inl (mu',l++[(t:Int)])):=by
    unfold i7;simp(disch:=omega)only[lh,hmr,hst,Bool.not_true,rs]
   have htb:=qw4 hts (show t<ts.length by omega);have hbd:=hsp'.bd;have h1:=hno.lo;have hd1:decide (B'.1+(ts.getD t af.z).1<B.1)=false:=decide_eq_false (by omega);cases ho:B.2.2.1 with
   |true=>
    rw[ho]at hT0;simp(disch:=omega)only[dq,hE,hnz,e3,hg,hF,hr,hd1,hT0,Int.toNat_natCast,Bool.true_and,Bool.not_true,Bool.not_false,rs];rfl
   |false=>
    rw[ho]at hT0;obtain⟨o1,o2,o3⟩:=hno.op ho;have hbd2:=hbd.2.2 o1;have hd2:decide (B.2.1<B'.2.1+(ts.getD t af.z).2.1)=false:=decide_eq_false (by omega);have o2:(ts.getD t af.z).2.2.1=false:=o2;rw[o1]at hT0;simp(disch:=omega)only[dq,hE,hnz,e3,hg,hF,hr,hd1,hd2,o1,o2,hT0,Int.toNat_natCast,Bool.true_and,Bool.not_true,Bool.not_false,rs];rfl
abbrev l7(ks:List Nat):List Int:=ks.map fun(t:Nat)=>(t:Int)
theorem q9y(ks:List Nat):qs9 (edK ks)=l7 ks:=by
 unfold qs9 edK l7;rw[List.map_map];rfl
theorem jb8{n:c8}:∀{ks:List Nat} {x y:List Int},Fs n x ks y→∀t∈ks,t<n.2.1.length
 |[],_,_,_,t,ht=>by cases ht
 |a::ks,x,y,⟨h1,_,h3⟩,t,ht=>by
  rcases List.mem_cons.1 ht with rfl|ht
  ·exact h1
  ·exact jb8 h3 t ht
theorem q56(ts:List af)(ks:List Nat)(h:∀t∈ks,opT ts t=false):qmf ts (edK ks)=false:=by
 unfold qmf;refine List.any_eq_false.2 fun e he=> ?_
 obtain⟨t,ht,rfl⟩:=List.mem_map.1 he;rw[h t ht];exact Bool.false_ne_true
theorem jba(h:GG n m most.toNat σ N g nE c)(hS:Small n)(hmost:most≤60)(hv:db n=true){ts:List af}(hts:c7 ts n.2.1.length=true)(htl:ts.length≤1000){F:af}{mu0:List Int}(hF:Sp n ts m F mu0)(cs:List Int)(hcs:cs.length≤30)(hcb:∀x∈cs,0≤x∧x≤255):∀(f k b:Nat) (B:af) (mu:List Int) (ks:List Nat),k+f=cs.length→b<N→mu.length≤100→Sp n ts (bu σ b) B mu→Fs n m ks (bu σ b)→ks.length=k→
  ∃r:Unit⊕Bool,kz (fun a=>bj ts most (qgo n.1 n.2.2.2.1) cs (cs.length:Int) n.1 n.2.1 n.2.2.1 n.2.2.2.1 F.1 F.2.1 F.2.2.1 a.1 a.2.1 a.2.2.1 a.2.2.2.1 a.2.2.2.2.1 a.2.2.2.2.2.1 a.2.2.2.2.2.2 (fun a' =>some (.next a')) (fun e=>some (.done e)) (fun r=>some (.ret r))) (f+1) (bu σ b,mu,(k:Int),B.1,B.2.1,B.2.2.1,l7 ks)=some r∧(r= .inl ()∨r= .inr true):=by
 intro f
 induction f with
 |zero=>
  intro k b B mu ks hk hb hmu hsp hfs hkl;refine⟨.inl (),?_, .inl rfl⟩;rw[ba,show k=cs.length by omega];simp(disch:=omega)only[bj,rs];rfl
 |succ f ih=>
  intro k b B mu ks hk hb hmu hsp hfs hkl;have hkc:k<cs.length:=by omega
  have hcx:=hcb _ (aw 0 hkc);have hm:=h.mark hb;have hml:=(ko.1 hm).1;have hN:1≤n.1∧n.1≤40:=by
   unfold db at hv;simp only[Bool.and_eq_true,decide_eq_true_eq]at hv;exact hv.1.1.1.1
  have hT:=gz hts;have hEq:=qxd (bu σ b) (qgo n.1 n.2.2.2.1) (by omega);have hcl:(l7 ks).length=ks.length:=List.length_map _;have htot:=q83 (ts:=ts) (by rw[hT];exact hts) (edK ks) (by rw[List.length_map];omega) fun e he=>by
   obtain⟨t,ht,rfl⟩:=List.mem_map.1 he;rw[hT];exact jb8 hfs t ht
  rw[q9y]at htot;rcases jbb h hS hmost hv hts htl hb hmu hsp hcx (qgo n.1 n.2.2.2.1) cs (cs.length:Int) (k:Int) F.1 F.2.1 F.2.2.1 (l7 ks) (by omega)with hT1|⟨b',t,B',mu',hb',ht,hca,hbe,hmu',hsp',hT1⟩
  ·refine⟨.inr true,?_, .inr rfl⟩;rw[ba];by_cases he:bu σ b=qgo n.1 n.2.2.2.1
   ·rw[decide_eq_true he]at hEq;have hcm:Cmp n m ks:=by rw[he]at hfs;exact hfs
    have h1:=hF.lo ks hcm;have hd1:decide (tz (gg ts false) (edK ks)<F.1)=false:=decide_eq_false (by unfold qns at h1;omega);cases ho:F.2.2.1 with
    |true=>
     rw[ho]at hT1;simp(disch:=omega)only[bj,hEq,htot,hd1,hT1,Bool.not_true,rs];rfl
    |false=>
     obtain⟨h2,h3⟩:=hF.cls ho ks hcm;have hd2:decide (F.2.1<tz (gg ts true) (edK ks))=false:=decide_eq_false (by unfold qns at h2;omega);rw[q56 ts ks h3]at htot;rw[ho]at hT1;simp(disch:=omega)only[bj,hEq,htot,hd1,hd2,hT1,Bool.not_true,Bool.not_false,rs];rfl
   ·rw[decide_eq_false he]at hEq;simp(disch:=omega)only[bj,hEq,hT1,rs];rfl
  ·have hfs' :Fs n m (ks++[t]) (bu σ b'):=hfs.app ⟨ht,hca,hbe⟩;obtain⟨r,q1,q2⟩:=ih (k+1) b' B' mu' (ks++[t]) (by omega) hb' hmu' hsp' hfs' (by rw[List.length_append,List.length_singleton];omega);refine⟨r,?_,q2⟩;have hap:l7 (ks++[t])=l7 ks++[(t:Int)]:=List.map_append;rw[hap]at q1;rw[←q1,ba];by_cases he:bu σ b=qgo n.1 n.2.2.2.1
   ·rw[decide_eq_true he]at hEq;have hcm:Cmp n m ks:=by rw[he]at hfs;exact hfs
    have h1:=hF.lo ks hcm;have hd1:decide (tz (gg ts false) (edK ks)<F.1)=false:=decide_eq_false (by unfold qns at h1;omega);cases ho:F.2.2.1 with
    |true=>
     rw[ho]at hT1;simp(disch:=omega)only[bj,hEq,htot,hd1,hT1,Bool.not_true,aj,rs];rfl
    |false=>
     obtain⟨h2,h3⟩:=hF.cls ho ks hcm;have hd2:decide (F.2.1<tz (gg ts true) (edK ks))=false:=decide_eq_false (by unfold qns at h2;omega);rw[q56 ts ks h3]at htot;rw[ho]at hT1;simp(disch:=omega)only[bj,hEq,htot,hd1,hd2,hT1,Bool.not_true,Bool.not_false,aj,rs];rfl
   ·rw[decide_eq_false he]at hEq;simp(disch:=omega)only[bj,hEq,hT1,aj,rs];rfl
end
theorem jpi(n:c8)(m:List Int)(ts:List af)(most:Int)(cs:List Int)(hcb:∀x∈cs,0≤x∧x≤255):oi n m ts most cs=some true:=by
 obtain⟨b,hb,hf⟩:=je4 n m ts;unfold oi;cases b with
 |false=>
  simp(disch:=omega)only[yx,hb,Bool.not_true,Bool.not_false,rs]
 |true=>
  by_cases h60:60<most
  ·simp(disch:=omega)only[yx,hb,Bool.not_true,Bool.not_false,rs]
  ·by_cases h30:30<cs.length
   ·simp(disch:=omega)only[yx,hb,Bool.not_true,Bool.not_false,rs]
   ·obtain⟨a1,a2,a3,a4⟩:=je5 (hf rfl);cases res a1 a2 a3 a4 (most:=most) (by omega)with
    |err e he h1 h2=>
     have e1:=zk he h1;simp(disch:=omega)only[yx,hb,e1,decide_eq_false he,Bool.not_true,Bool.not_false,rs];rfl
    |none M g N h1 hr h2=>
     have e1:=x0 h1 hr;simp(disch:=omega)only[yx,hb,e1,Bool.not_true,Bool.not_false,rs];rfl
    |ok σ N g nE c hG hc hv hm ht h1 hr h2=>
     have hg:=qks a1 a2 a3 a4 most;rw[ht]at hg;have hg:bk n m ts most=ao n m most:=hg;have hmu:=qyx a1 hG hv (hg.symm.trans h1) hr;have hF:=qpt a1 hv;obtain⟨B,hB⟩:=qpg hG hc ht;have e1:=qbu hG ht h1 hr hB;have hsp:=jci hG ht hB;have hmlen:=qcf (oz c nE) g n.2.1.length;have h0:=hG.ok.fst;obtain⟨r,q1,q2⟩:=jba hG a1 (by omega) hv ht a4 hsp cs (by omega) hcb cs.length 0 0 B (ru (oz c nE) g n.2.1.length) [] (by omega) hG.pos (by omega) (by rw[h0];exact hsp) h0.symm rfl;rw[h0]at q1;have hL:rk ts most (qgo n.1 n.2.2.2.1) cs (cs.length:Int) n.1 n.2.1 n.2.2.1 n.2.2.2.1 B.1 B.2.1 B.2.2.1 (m,ru (oz c nE) g n.2.1.length,0,B.1,B.2.1,B.2.2.1,[])=some r:=iy q1 (bh (by omega));rcases q2 with rfl|rfl
     ·simp(disch:=omega)only[yx,hb,e1,hF,hmu,hL,Bool.not_true,Bool.not_false,rs]
     ·simp(disch:=omega)only[yx,hb,e1,hF,hmu,hL,Bool.not_true,Bool.not_false,rs]
end Go.Proofs.Ytokeielgplbdeaa
