/-
  Predict: the graph of a marking.
-/
import Derived.Test.YtokeielgplbdeaaZ8B2
set_option linter.all false
namespace Go.Proofs.Ytokeielgplbdeaa
open Go.K Go.M
abbrev qba:Eg→Bool:=fun _=>true
theorem q51{N TT:Nat}(hN:N≤100000)(nE:List Eg)(hE:∀e∈nE,GdE N TT e)(hl:nE.length≤1000000)(b0:Bool)(c:Mk)(v60:List (Int×List ab))(v61 v62:Int)(st:List (List Int))(mv:List aq)(fu:Bool)(g1 g2:Int)(g0:List (Int×List ab)):
  qa0 (nE.map cn) ((nE.map cn).length:Int) v60 v61 v62 st mv fu g1 g2 g0 (b0,0,fb N c)=some (.inl ((scn qba nE (b0,c)).1,fb N (scn qba nE (b0,c)).2)):=by
 have hlA:(nE.map cn).length=nE.length:=by rw[List.length_map]
 rw[hlA];have eT:scn qba nE (b0,c)=scn qba (nE.take nE.length) (b0,c):=by rw[List.take_length]
 rw[eT];refine jy (fun k:Nat=>((scn qba (nE.take k) (b0,c)).1,(k:Int),fb N (scn qba (nE.take k) (b0,c)).2)) nE.length (bm (by omega)) _ (fun k hk=> ?_) ?_ _ (by rfl)
 ·have e1:scn qba (nE.take (k+1)) (b0,c)=qdn qba (scn qba (nE.take k) (b0,c)) (nE.getD k (0,0,0)):=by
   rw[cr nE k (0,0,0) hk];unfold scn;rw[List.foldl_append];rfl
  have hg:(nE.map cn).getD k aq.z=cn (nE.getD k (0,0,0)):=i9 _ _ _ _ _ hk;have hge:=hE _ (aw (0,0,0) hk);rw[e1];generalize scn qba (nE.take k) (b0,c)=s;obtain⟨b1,c1⟩:=s;generalize nE.getD k (0,0,0)=e at hg hge;obtain⟨i,to,t⟩:=e;have hi:i<N:=hge.a;have hge1:to<N:=hge.b;have hlc:=xo N c1;have h1:(fb N c1).getD to false=c1 to:=tv hge1;have h2:(fb N c1).getD i false=c1 i:=tv hi;have hs:=qg4 N c1 i;have hkl:k<(nE.map cn).length:=by rw[hlA];exact hk
  have hm0:(cn (i,to,t)).1=(i:Int):=rfl;have hm1:(cn (i,to,t)).2.1=(to:Int):=rfl;unfold qdn;simp only[];cases hv:c1 to with
  |false=>
   rw[hv]at h1;simp(disch:=omega)only[ip,hg,hm0,hm1,hlc,h1,Bool.true_and,Bool.false_and,al,rs]
  |true=>
   rw[hv]at h1;cases hu:c1 i with
   |true=>
    rw[hu]at h2;simp(disch:=omega)only[ip,hg,hm0,hm1,hlc,h1,h2,Bool.not_true,Bool.true_and,al,rs]
   |false=>
    rw[hu]at h2;simp(disch:=omega)only[ip,hg,hm0,hm1,hlc,h1,h2,hs,Bool.not_false,Bool.true_and,al,rs]
 ·simp(disch:=omega)only[ip,hlA,rs]
theorem q52{N TT g:Nat}(hN:N≤100000)(nE:List Eg)(hE:∀e∈nE,GdE N TT e)(hl:nE.length≤1000000)(v60:List (Int×List ab))(v61 v62:Int)(st:List (List Int))(fu:Bool)(g1 g2:Int)(g0:List (Int×List ab)):∀(f k:Nat) (c:Mk),k+f=N→Sou (EP qba nE) g c→Cov (EP qba nE) g k c→
  ∃c',la (fun a=>iq v60 v61 v62 st (nE.map cn) fu g1 g2 g0 a.1 a.2 (fun a' =>some (.next a')) (fun e=>some (.done e)) (fun r=>some (.ret r))) (f+2) (true,fb N c)=some (.inl (fb N c'))∧Sou (EP qba nE) g c' ∧All (EP qba nE) g c' :=by
 intro f
 induction f with
 |zero=>
  intro k c hk hs ha;have ho:=q4w (N:=N) (fun e he=>(hE e he.1).a) (by omega) ha;have hp:=qrj (P:=qba) hs ho nE false fun e he hp=>⟨he,hp⟩
  have h0:=q51 hN nE hE hl false c v60 v61 v62 st (nE.map cn) fu g1 g2 g0;rw[hp]at h0;refine⟨c,?_,hs,ho⟩;rw[a8];simp(disch:=omega)only[iq,h0,rs];rfl
 |succ f ih=>
  intro k c hk hs ha;have h0:=q51 hN nE hE hl false c v60 v61 v62 st (nE.map cn) fu g1 g2 g0;have hs' :=qy9 (P:=qba) nE (false,c) (fun e he hp=>(⟨he,hp⟩:EP qba nE e)) hs;have ha' :=q6b (P:=qba) (L:=nE) (s:=(false,c)) (fun e he=>he) ha;rw[a8];cases hc:(scn qba nE (false,c)).1 with
  |false=>
   obtain⟨e2,e3⟩:=qtx _ _ hc;rw[e2]at h0;refine⟨c,?_,hs,qro (P:=qba) (L:=nE) (fun e he=>he) (ha g [] rfl (Nat.zero_le _)) e3⟩;simp(disch:=omega)only[iq,h0,rs];rfl
  |true=>
   rw[hc]at h0;obtain⟨d',q1,q2⟩:=ih (k+1) _ (by omega) hs' ha';refine⟨d',?_,q2⟩;rw[←q1];simp(disch:=omega)only[iq,h0,rs];rfl
def ov(c:Mk)(nE:List Eg):List Eg:=nE.filter fun e=>c e.1&&c e.2.1
theorem jdm{es:Ens}{i j:Nat}(h:kIx es i=some j)(x:List (Nat×Nat)):kIx (es.set j (i,x)) i=some j:=by
 obtain⟨h1,_,h3⟩:=vm (0,[]) h;refine q5a (0,[]) (by rw[List.length_set];exact h1) ?_ fun k hk=> ?_
 ·rw[List.getD_eq_getElem?_getD,List.getElem?_set_self h1];exact decide_eq_true rfl
 ·rw[List.getD_eq_getElem?_getD,List.getElem?_set_ne (by omega),←List.getD_eq_getElem?_getD];exact h3 k hk
theorem q5r{es:Ens}{j:Nat}(h:j<es.length):us (es.map kf) j=(es.getD j (0,[])).2.map bw:=by
 unfold us;rw[List.getElem?_map,List.getElem?_eq_getElem h,jx es j _ h];rfl
theorem jdu{es:Ens}{j:Nat}(h:j<es.length)(x:List (Nat×Nat)):qf7 (es.map kf) j (x.map bw)=(es.set j ((es.getD j (0,[])).1,x)).map kf:=by
 unfold qf7;rw[List.getElem?_map,List.getElem?_eq_getElem h,jx es j _ h,List.map_set];rfl
theorem jec{L:List Eg}{es:Ens}(h:GrpOK L es){j:Nat}(hj:j<es.length):(es.getD j (0,[])).2.length≤L.length:=by
 rw[(h.row _ (aw (0,[]) hj)).1];unfold jh;rw[List.length_map];exact List.length_filter_le _ _
theorem q53{N TT:Nat}(hN:N≤100000)(nE:List Eg)(hE:∀e∈nE,GdE N TT e)(hl:nE.length≤100000)(c:Mk)(v60:List (Int×List ab))(v61 v62:Int)(g1 g2:Int):
  qa1 (fb N c) (nE.map cn) ((nE.map cn).length:Int) v60 v61 v62 g1 g2 (0,[])=some (.inl ((grp (ov c nE)).map kf)):=by
 have hlA:(nE.map cn).length=nE.length:=by rw[List.length_map]
 rw[hlA];have eT:grp (ov c nE)=grp (ov c (nE.take nE.length)):=by rw[List.take_length]
 rw[eT];refine jy (fun k:Nat=>((k:Int),(grp (ov c (nE.take k))).map kf)) nE.length (bm (by omega)) _ (fun k hk=> ?_) ?_ _ (by rfl)
 ·have e0:ov c (nE.take (k+1))=ov c (nE.take k)++[nE.getD k (0,0,0)].filter fun e=>c e.1&&c e.2.1:=by
   rw[cr nE k (0,0,0) hk];unfold ov;rw[List.filter_append]
  have hg:(nE.map cn).getD k aq.z=cn (nE.getD k (0,0,0)):=i9 _ _ _ _ _ hk;have hge:=hE _ (aw (0,0,0) hk);have hok:=qxv (ov c (nE.take k));have hlk:(ov c (nE.take k)).length≤nE.length:=by
   unfold ov;refine Nat.le_trans (List.length_filter_le _ _) ?_;rw[List.length_take];omega
  rw[e0];generalize ov c (nE.take k)=L at hok hlk;generalize nE.getD k (0,0,0)=e at hg hge;obtain⟨i,to,t⟩:=e;have hi:i<N:=hge.a;have hge1:to<N:=hge.b;have hlc:=xo N c;have h1:(fb N c).getD to false=c to:=tv hge1;have h2:(fb N c).getD i false=c i:=tv hi;have hkl:k<(nE.map cn).length:=by rw[hlA];exact hk
  have hm0:(cn (i,to,t)).1=(i:Int):=rfl;have hm1:(cn (i,to,t)).2.1=(to:Int):=rfl;have hm2:(cn (i,to,t)).2=bw (to,t):=rfl;have hm3:(bw (to,t)).1=(to:Int):=rfl;cases hv:c i with
  |false=>
   rw[hv]at h2;rw[List.filter_cons_of_neg (by simp[hv]),List.filter_nil,List.append_nil];simp(disch:=omega)only[fv,hg,hm0,hlc,h2,al,rs]
  |true=>
   rw[hv]at h2;cases hu:c to with
   |false=>
    rw[hu]at h1;rw[List.filter_cons_of_neg (by simp[hu]),List.filter_nil,List.append_nil];simp(disch:=omega)only[fv,hg,hm0,hm1,hlc,h1,h2,al,rs]
   |true=>
    rw[hu]at h1;rw[List.filter_cons_of_pos (by simp only[hv,hu,Bool.and_self]),List.filter_nil];have e5:grp (L++[(i,to,t)])=q7i (grp L) (i,to,t):=by unfold grp;rw[List.foldl_append];rfl
    rw[e5];unfold q7i;simp only[];have hmi:=q29 i (grp L) 0;cases hk2:kIx (grp L) i with
    |none=>
     rw[hk2]at hmi;have hmi:mIx (.int .i64) (i:Int) ((grp L).map kf) 0=none:=hmi;have e6:((grp L++[(i,[(to,t)])]).map kf)=(grp L).map kf++[((i:Int),[bw (to,t)])]:=by rw[List.map_append];rfl
     simp only[e6];simp(disch:=omega)only[fv,hg,hm0,hm1,hm2,hm3,hlc,h1,h2,al,rs];split
     ·rename_i ix h;exact absurd (h.symm.trans hmi) (by simp)
     ·rfl
    |some j=>
     rw[hk2]at hmi;have hmi:mIx (.int .i64) (i:Int) ((grp L).map kf) 0=some j:=hmi;obtain⟨q1,q2⟩:=q0n hk2;have q3:=jec hok q1;have e7:us ((grp L).map kf) j++[bw (to,t)]=(((grp L).getD j (0,[])).2++[(to,t)]).map bw:=by
      rw[q5r q1,List.map_append];rfl
     have e8:=jdu q1 (((grp L).getD j (0,[])).2++[(to,t)]);rw[q2]at e8;have e9:mIx (.int .i64) (i:Int) (((grp L).set j (i,((grp L).getD j (0,[])).2++[(to,t)])).map kf) 0=some j:=by
      have:=q29 i ((grp L).set j (i,((grp L).getD j (0,[])).2++[(to,t)])) 0;rw[jdm hk2]at this;exact this
     simp only[];rw[←e8];have e9:mIx (.int .i64) (i:Int) (qf7 ((grp L).map kf) j ((((grp L).getD j (0,[])).2++[(to,t)]).map bw)) 0=some j:=(congrArg (fun l:List (Int×List ab)=>mIx (.int .i64) (i:Int) l 0) e8).trans e9;simp(disch:=omega)only[fv,hg,hm0,hm1,hm2,hm3,hlc,h1,h2,al,rs];split
     ·rename_i ix h;obtain rfl:ix=j:=Option.some.inj (h.symm.trans hmi);rw[e7];have hb:Nat.blt ix ((grp L).map kf).length=true:=by rw[Nat.blt_eq,List.length_map];exact q1
      have hb2:(Nat.beq 2 2&&Nat.beq ix ix&&Nat.beq 0 0)=true:=by simp
      have hml:(us ((grp L).map kf) ix).length≤nE.length:=by rw[q5r q1,List.length_map];omega
      rw[yz hb,qz6 (by omega) (by omega),yz hb2];refine yz ?_ _;split
      ·rename_i i' h';obtain rfl:i' =ix:=Option.some.inj (h'.symm.trans e9);exact Nat.beq_refl _
      ·rename_i h';exact absurd (h'.symm.trans e9) (by simp)
     ·rename_i h;exact absurd (h.symm.trans hmi) (by simp)
 ·simp(disch:=omega)only[fv,hlA,rs]
end Go.Proofs.Ytokeielgplbdeaa
