/-
  Predict: the graph of a marking.
-/
import Derived.Test.YtokeielgplbdeaaZ3B2
set_option linter.all false
namespace Go.Proofs.Ytokeielgplbdeaa
open Go.K Go.M
abbrev qay:Eg→Bool:=fun _=>true
theorem q7z{N TT:Nat}(hN:N≤100000)(nE:List Eg)(hE:∀e∈nE,GdE N TT e)(hl:nE.length≤1000000)(b0:Bool)(c:Mk)(v60:List (Int×List ab))(v61 v62:Int)(st:List (List Int))(mv:List ao)(fu:Bool)(g1 g2:Int)(g0:List (Int×List ab)):
  qag (nE.map cn) ((nE.map cn).length:Int) v60 v61 v62 st mv fu g1 g2 g0 (b0,0,fk N c)=some (.inl ((scn qay nE (b0,c)).1,fk N (scn qay nE (b0,c)).2)):=by
 have hlA:(nE.map cn).length=nE.length:=by rw[List.length_map]
 rw[hlA];have eT:scn qay nE (b0,c)=scn qay (nE.take nE.length) (b0,c):=by rw[List.take_length]
 rw[eT];refine jh (fun k:Nat=>((scn qay (nE.take k) (b0,c)).1,(k:Int),fk N (scn qay (nE.take k) (b0,c)).2)) nE.length (bv (by omega)) _ (fun k hk=> ?_) ?_ _ (by rfl)
 ·have e1:scn qay (nE.take (k+1)) (b0,c)=qdr qay (scn qay (nE.take k) (b0,c)) (nE.getD k (0,0,0)):=by
   rw[cq nE k (0,0,0) hk];unfold scn;rw[List.foldl_append];rfl
  have hg:(nE.map cn).getD k ao.z=cn (nE.getD k (0,0,0)):=iy _ _ _ _ _ hk;have hge:=hE _ (ba (0,0,0) hk);rw[e1];generalize scn qay (nE.take k) (b0,c)=s;obtain⟨b1,c1⟩:=s;generalize nE.getD k (0,0,0)=e at hg hge;obtain⟨i,to,t⟩:=e;have hi:i<N:=hge.a;have hge1:to<N:=hge.b;have hlc:=wn N c1;have h1:(fk N c1).getD to false=c1 to:=sx hge1;have h2:(fk N c1).getD i false=c1 i:=sx hi;have hs:=qm4 N c1 i;have hkl:k<(nE.map cn).length:=by rw[hlA];exact hk
  have hm0:(cn (i,to,t)).1=(i:Int):=rfl;have hm1:(cn (i,to,t)).2.1=(to:Int):=rfl;unfold qdr;simp only[];cases hv:c1 to with
  |false=>
   rw[hv]at h1;simp(disch:=omega)only[ie,hg,hm0,hm1,hlc,h1,Bool.true_and,Bool.false_and,al,rs]
  |true=>
   rw[hv]at h1;cases hu:c1 i with
   |true=>
    rw[hu]at h2;simp(disch:=omega)only[ie,hg,hm0,hm1,hlc,h1,h2,Bool.not_true,Bool.true_and,al,rs]
   |false=>
    rw[hu]at h2;simp(disch:=omega)only[ie,hg,hm0,hm1,hlc,h1,h2,hs,Bool.not_false,Bool.true_and,al,rs]
 ·simp(disch:=omega)only[ie,hlA,rs]
theorem jfr{N TT g:Nat}(hN:N≤100000)(nE:List Eg)(hE:∀e∈nE,GdE N TT e)(hl:nE.length≤1000000)(v60:List (Int×List ab))(v61 v62:Int)(st:List (List Int))(fu:Bool)(g1 g2:Int)(g0:List (Int×List ab)):∀(f k:Nat) (c:Mk),k+f=N→Sou (EP qay nE) g c→Cov (EP qay nE) g k c→
  ∃c',k8 (fun a=>ig v60 v61 v62 st (nE.map cn) fu g1 g2 g0 a.1 a.2 (fun a' =>some (.next a')) (fun e=>some (.done e)) (fun r=>some (.ret r))) (f+2) (true,fk N c)=some (.inl (fk N c'))∧Sou (EP qay nE) g c' ∧All (EP qay nE) g c' :=by
 intro f
 induction f with
 |zero=>
  intro k c hk hs ha;have ho:=q6w (N:=N) (fun e he=>(hE e he.1).a) (by omega) ha;have hp:=qs6 (P:=qay) hs ho nE false fun e he hp=>⟨he,hp⟩
  have h0:=q7z hN nE hE hl false c v60 v61 v62 st (nE.map cn) fu g1 g2 g0;rw[hp]at h0;refine⟨c,?_,hs,ho⟩;rw[bk];simp(disch:=omega)only[ig,h0,rs];rfl
 |succ f ih=>
  intro k c hk hs ha;have h0:=q7z hN nE hE hl false c v60 v61 v62 st (nE.map cn) fu g1 g2 g0;have hs' :=q1b (P:=qay) nE (false,c) (fun e he hp=>(⟨he,hp⟩:EP qay nE e)) hs;have ha' :=q77 (P:=qay) (L:=nE) (s:=(false,c)) (fun e he=>he) ha;rw[bk];cases hc:(scn qay nE (false,c)).1 with
  |false=>
   obtain⟨e2,e3⟩:=qvv _ _ hc;rw[e2]at h0;refine⟨c,?_,hs,qs9 (P:=qay) (L:=nE) (fun e he=>he) (ha g [] rfl (Nat.zero_le _)) e3⟩;simp(disch:=omega)only[ig,h0,rs];rfl
  |true=>
   rw[hc]at h0;obtain⟨d',q1,q2⟩:=ih (k+1) _ (by omega) hs' ha';refine⟨d',?_,q2⟩;rw[←q1];simp(disch:=omega)only[ig,h0,rs];rfl
def sj(c:Mk)(nE:List Eg):List Eg:=nE.filter fun e=>c e.1&&c e.2.1
theorem je8{es:Ens}{i j:Nat}(h:kIx es i=some j)(x:List (Nat×Nat)):kIx (es.set j (i,x)) i=some j:=by
 obtain⟨h1,_,h3⟩:=us (0,[]) h;refine q69 (0,[]) (by rw[List.length_set];exact h1) ?_ fun k hk=> ?_
 ·rw[List.getD_eq_getElem?_getD,List.getElem?_set_self h1];exact decide_eq_true rfl
 ·rw[List.getD_eq_getElem?_getD,List.getElem?_set_ne (by omega),←List.getD_eq_getElem?_getD];exact h3 k hk
theorem q7p{es:Ens}{j:Nat}(h:j<es.length):t5 (es.map jx) j=(es.getD j (0,[])).2.map bx:=by
 unfold t5;rw[List.getElem?_map,List.getElem?_eq_getElem h,m7 es j _ h];rfl
theorem jfg{es:Ens}{j:Nat}(h:j<es.length)(x:List (Nat×Nat)):qgb (es.map jx) j (x.map bx)=(es.set j ((es.getD j (0,[])).1,x)).map jx:=by
 unfold qgb;rw[List.getElem?_map,List.getElem?_eq_getElem h,m7 es j _ h,List.map_set];rfl
theorem jfx{L:List Eg}{es:Ens}(h:GrpOK L es){j:Nat}(hj:j<es.length):(es.getD j (0,[])).2.length≤L.length:=by
 rw[(h.row _ (ba (0,[]) hj)).1];unfold i6;rw[List.length_map];exact List.length_filter_le _ _
theorem jfs{N TT:Nat}(hN:N≤100000)(nE:List Eg)(hE:∀e∈nE,GdE N TT e)(hl:nE.length≤100000)(c:Mk)(v60:List (Int×List ab))(v61 v62:Int)(g1 g2:Int):
  qai (fk N c) (nE.map cn) ((nE.map cn).length:Int) v60 v61 v62 g1 g2 (0,[])=some (.inl ((grp (sj c nE)).map jx)):=by
 have hlA:(nE.map cn).length=nE.length:=by rw[List.length_map]
 rw[hlA];have eT:grp (sj c nE)=grp (sj c (nE.take nE.length)):=by rw[List.take_length]
 rw[eT];refine jh (fun k:Nat=>((k:Int),(grp (sj c (nE.take k))).map jx)) nE.length (bv (by omega)) _ (fun k hk=> ?_) ?_ _ (by rfl)
 ·have e0:sj c (nE.take (k+1))=sj c (nE.take k)++[nE.getD k (0,0,0)].filter fun e=>c e.1&&c e.2.1:=by
   rw[cq nE k (0,0,0) hk];unfold sj;rw[List.filter_append]
  have hg:(nE.map cn).getD k ao.z=cn (nE.getD k (0,0,0)):=iy _ _ _ _ _ hk;have hge:=hE _ (ba (0,0,0) hk);have hok:=qzp (sj c (nE.take k));have hlk:(sj c (nE.take k)).length≤nE.length:=by
   unfold sj;refine Nat.le_trans (List.length_filter_le _ _) ?_;rw[List.length_take];omega
  rw[e0];generalize sj c (nE.take k)=L at hok hlk;generalize nE.getD k (0,0,0)=e at hg hge;obtain⟨i,to,t⟩:=e;have hi:i<N:=hge.a;have hge1:to<N:=hge.b;have hlc:=wn N c;have h1:(fk N c).getD to false=c to:=sx hge1;have h2:(fk N c).getD i false=c i:=sx hi;have hkl:k<(nE.map cn).length:=by rw[hlA];exact hk
  have hm0:(cn (i,to,t)).1=(i:Int):=rfl;have hm1:(cn (i,to,t)).2.1=(to:Int):=rfl;have hm2:(cn (i,to,t)).2=bx (to,t):=rfl;have hm3:(bx (to,t)).1=(to:Int):=rfl;cases hv:c i with
  |false=>
   rw[hv]at h2;rw[List.filter_cons_of_neg (by simp[hv]),List.filter_nil,List.append_nil];simp(disch:=omega)only[fm,hg,hm0,hlc,h2,al,rs]
  |true=>
   rw[hv]at h2;cases hu:c to with
   |false=>
    rw[hu]at h1;rw[List.filter_cons_of_neg (by simp[hu]),List.filter_nil,List.append_nil];simp(disch:=omega)only[fm,hg,hm0,hm1,hlc,h1,h2,al,rs]
   |true=>
    rw[hu]at h1;rw[List.filter_cons_of_pos (by simp only[hv,hu,Bool.and_self]),List.filter_nil];have e5:grp (L++[(i,to,t)])=q9d (grp L) (i,to,t):=by unfold grp;rw[List.foldl_append];rfl
    rw[e5];unfold q9d;simp only[];have hmi:=q5a i (grp L) 0;cases hk2:kIx (grp L) i with
    |none=>
     rw[hk2]at hmi;have hmi:mIx (.int .i64) (i:Int) ((grp L).map jx) 0=none:=hmi;have e6:((grp L++[(i,[(to,t)])]).map jx)=(grp L).map jx++[((i:Int),[bx (to,t)])]:=by rw[List.map_append];rfl
     simp only[e6];simp(disch:=omega)only[fm,hg,hm0,hm1,hm2,hm3,hlc,h1,h2,al,rs];split
     ·rename_i ix h;exact absurd (h.symm.trans hmi) (by simp)
     ·rfl
    |some j=>
     rw[hk2]at hmi;have hmi:mIx (.int .i64) (i:Int) ((grp L).map jx) 0=some j:=hmi;obtain⟨q1,q2⟩:=q2k hk2;have q3:=jfx hok q1;have e7:t5 ((grp L).map jx) j++[bx (to,t)]=(((grp L).getD j (0,[])).2++[(to,t)]).map bx:=by
      rw[q7p q1,List.map_append];rfl
     have e8:=jfg q1 (((grp L).getD j (0,[])).2++[(to,t)]);rw[q2]at e8;have e9:mIx (.int .i64) (i:Int) (((grp L).set j (i,((grp L).getD j (0,[])).2++[(to,t)])).map jx) 0=some j:=by
      have:=q5a i ((grp L).set j (i,((grp L).getD j (0,[])).2++[(to,t)])) 0;rw[je8 hk2]at this;exact this
     simp only[];rw[←e8];have e9:mIx (.int .i64) (i:Int) (qgb ((grp L).map jx) j ((((grp L).getD j (0,[])).2++[(to,t)]).map bx)) 0=some j:=(congrArg (fun l:List (Int×List ab)=>mIx (.int .i64) (i:Int) l 0) e8).trans e9;simp(disch:=omega)only[fm,hg,hm0,hm1,hm2,hm3,hlc,h1,h2,al,rs];split
     ·rename_i ix h;obtain rfl:ix=j:=Option.some.inj (h.symm.trans hmi);rw[e7];have hb:Nat.blt ix ((grp L).map jx).length=true:=by rw[Nat.blt_eq,List.length_map];exact q1
      have hb2:(Nat.beq 2 2&&Nat.beq ix ix&&Nat.beq 0 0)=true:=by simp
      have hml:(t5 ((grp L).map jx) ix).length≤nE.length:=by rw[q7p q1,List.length_map];omega
      rw[yf hb,q16 (by omega) (by omega),yf hb2];refine yf ?_ _;split
      ·rename_i i' h';obtain rfl:i' =ix:=Option.some.inj (h'.symm.trans e9);exact Nat.beq_refl _
      ·rename_i h';exact absurd (h'.symm.trans e9) (by simp)
     ·rename_i h;exact absurd (h.symm.trans hmi) (by simp)
 ·simp(disch:=omega)only[fm,hlA,rs]
end Go.Proofs.Ytokeielgplbdeaa
