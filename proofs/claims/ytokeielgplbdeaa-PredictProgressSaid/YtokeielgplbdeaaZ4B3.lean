/-
  Predict: the graph of a marking.
-/
import Derived.Test.YtokeielgplbdeaaZ4B2
set_option linter.all false
namespace Go.Proofs.Ytokeielgplbdeaa
open Go.K Go.M
abbrev qas:Eg→Bool:=fun _=>true
theorem q3h{N TT:Nat}(hN:N≤100000)(nE:List Eg)(hE:∀e∈nE,GdE N TT e)(hl:nE.length≤1000000)(b0:Bool)(c:Mk)(v60:List (Int×List ab))(v61 v62:Int)(st:List (List Int))(mv:List aq)(fu:Bool)(g1 g2:Int)(g0:List (Int×List ab)):
  qai (nE.map cr) ((nE.map cr).length:Int) v60 v61 v62 st mv fu g1 g2 g0 (b0,0,fb N c)=some (.inl ((scn qas nE (b0,c)).1,fb N (scn qas nE (b0,c)).2)):=by
 have hlA:(nE.map cr).length=nE.length:=by rw[List.length_map]
 rw[hlA];have eT:scn qas nE (b0,c)=scn qas (nE.take nE.length) (b0,c):=by rw[List.take_length]
 rw[eT];refine iz (fun k:Nat=>((scn qas (nE.take k) (b0,c)).1,(k:Int),fb N (scn qas (nE.take k) (b0,c)).2)) nE.length (bh (by omega)) _ (fun k hk=> ?_) ?_ _ (by rfl)
 ·have e1:scn qas (nE.take (k+1)) (b0,c)=qdd qas (scn qas (nE.take k) (b0,c)) (nE.getD k (0,0,0)):=by
   rw[cb nE k (0,0,0) hk];unfold scn;rw[List.foldl_append];rfl
  have hg:(nE.map cr).getD k aq.z=cr (nE.getD k (0,0,0)):=gv _ _ _ _ _ hk;have hge:=hE _ (aw (0,0,0) hk);rw[e1];generalize scn qas (nE.take k) (b0,c)=s;obtain⟨b1,c1⟩:=s;generalize nE.getD k (0,0,0)=e at hg hge;obtain⟨i,to,t⟩:=e;have hi:i<N:=hge.a;have hge1:to<N:=hge.b;have hlc:=wz N c1;have h1:(fb N c1).getD to false=c1 to:=s6 hge1;have h2:(fb N c1).getD i false=c1 i:=s6 hi;have hs:=qgp N c1 i;have hkl:k<(nE.map cr).length:=by rw[hlA];exact hk
  have hm0:(cr (i,to,t)).1=(i:Int):=rfl;have hm1:(cr (i,to,t)).2.1=(to:Int):=rfl;unfold qdd;simp only[];cases hv:c1 to with
  |false=>
   rw[hv]at h1;simp(disch:=omega)only[im,hg,hm0,hm1,hlc,h1,Bool.true_and,Bool.false_and,aj,rs]
  |true=>
   rw[hv]at h1;cases hu:c1 i with
   |true=>
    rw[hu]at h2;simp(disch:=omega)only[im,hg,hm0,hm1,hlc,h1,h2,Bool.not_true,Bool.true_and,aj,rs]
   |false=>
    rw[hu]at h2;simp(disch:=omega)only[im,hg,hm0,hm1,hlc,h1,h2,hs,Bool.not_false,Bool.true_and,aj,rs]
 ·simp(disch:=omega)only[im,hlA,rs]
theorem q3i{N TT g:Nat}(hN:N≤100000)(nE:List Eg)(hE:∀e∈nE,GdE N TT e)(hl:nE.length≤1000000)(v60:List (Int×List ab))(v61 v62:Int)(st:List (List Int))(fu:Bool)(g1 g2:Int)(g0:List (Int×List ab)):∀(f k:Nat) (c:Mk),k+f=N→Sou (EP qas nE) g c→Cov (EP qas nE) g k c→
  ∃c',kz (fun a=>io v60 v61 v62 st (nE.map cr) fu g1 g2 g0 a.1 a.2 (fun a' =>some (.next a')) (fun e=>some (.done e)) (fun r=>some (.ret r))) (f+2) (true,fb N c)=some (.inl (fb N c'))∧Sou (EP qas nE) g c' ∧All (EP qas nE) g c' :=by
 intro f
 induction f with
 |zero=>
  intro k c hk hs ha;have ho:=q2d (N:=N) (fun e he=>(hE e he.1).a) (by omega) ha;have hp:=qpz (P:=qas) hs ho nE false fun e he hp=>⟨he,hp⟩
  have h0:=q3h hN nE hE hl false c v60 v61 v62 st (nE.map cr) fu g1 g2 g0;rw[hp]at h0;refine⟨c,?_,hs,ho⟩;rw[ba];simp(disch:=omega)only[io,h0,rs];rfl
 |succ f ih=>
  intro k c hk hs ha;have h0:=q3h hN nE hE hl false c v60 v61 v62 st (nE.map cr) fu g1 g2 g0;have hs' :=qwv (P:=qas) nE (false,c) (fun e he hp=>(⟨he,hp⟩:EP qas nE e)) hs;have ha' :=q3r (P:=qas) (L:=nE) (s:=(false,c)) (fun e he=>he) ha;rw[ba];cases hc:(scn qas nE (false,c)).1 with
  |false=>
   obtain⟨e2,e3⟩:=qr4 _ _ hc;rw[e2]at h0;refine⟨c,?_,hs,qp2 (P:=qas) (L:=nE) (fun e he=>he) (ha g [] rfl (Nat.zero_le _)) e3⟩;simp(disch:=omega)only[io,h0,rs];rfl
  |true=>
   rw[hc]at h0;obtain⟨d',q1,q2⟩:=ih (k+1) _ (by omega) hs' ha';refine⟨d',?_,q2⟩;rw[←q1];simp(disch:=omega)only[io,h0,rs];rfl
def oz(c:Mk)(nE:List Eg):List Eg:=nE.filter fun e=>c e.1&&c e.2.1
theorem jao{es:Ens}{i j:Nat}(h:kIx es i=some j)(x:List (Nat×Nat)):kIx (es.set j (i,x)) i=some j:=by
 obtain⟨h1,_,h3⟩:=uv (0,[]) h;refine q2q (0,[]) (by rw[List.length_set];exact h1) ?_ fun k hk=> ?_
 ·rw[List.getD_eq_getElem?_getD,List.getElem?_set_self h1];exact decide_eq_true rfl
 ·rw[List.getD_eq_getElem?_getD,List.getElem?_set_ne (by omega),←List.getD_eq_getElem?_getD];exact h3 k hk
theorem q27{es:Ens}{j:Nat}(h:j<es.length):t5 (es.map j6) j=(es.getD j (0,[])).2.map bw:=by
 unfold t5;rw[List.getElem?_map,List.getElem?_eq_getElem h,ky es j _ h];rfl
theorem jaw{es:Ens}{j:Nat}(h:j<es.length)(x:List (Nat×Nat)):qfw (es.map j6) j (x.map bw)=(es.set j ((es.getD j (0,[])).1,x)).map j6:=by
 unfold qfw;rw[List.getElem?_map,List.getElem?_eq_getElem h,ky es j _ h,List.map_set];rfl
theorem jbg{L:List Eg}{es:Ens}(h:GrpOK L es){j:Nat}(hj:j<es.length):(es.getD j (0,[])).2.length≤L.length:=by
 rw[(h.row _ (aw (0,[]) hj)).1];unfold jg;rw[List.length_map];exact List.length_filter_le _ _
theorem q3j{N TT:Nat}(hN:N≤100000)(nE:List Eg)(hE:∀e∈nE,GdE N TT e)(hl:nE.length≤100000)(c:Mk)(v60:List (Int×List ab))(v61 v62:Int)(g1 g2:Int):
  qaj (fb N c) (nE.map cr) ((nE.map cr).length:Int) v60 v61 v62 g1 g2 (0,[])=some (.inl ((grp (oz c nE)).map j6)):=by
 have hlA:(nE.map cr).length=nE.length:=by rw[List.length_map]
 rw[hlA];have eT:grp (oz c nE)=grp (oz c (nE.take nE.length)):=by rw[List.take_length]
 rw[eT];refine iz (fun k:Nat=>((k:Int),(grp (oz c (nE.take k))).map j6)) nE.length (bh (by omega)) _ (fun k hk=> ?_) ?_ _ (by rfl)
 ·have e0:oz c (nE.take (k+1))=oz c (nE.take k)++[nE.getD k (0,0,0)].filter fun e=>c e.1&&c e.2.1:=by
   rw[cb nE k (0,0,0) hk];unfold oz;rw[List.filter_append]
  have hg:(nE.map cr).getD k aq.z=cr (nE.getD k (0,0,0)):=gv _ _ _ _ _ hk;have hge:=hE _ (aw (0,0,0) hk);have hok:=qvl (oz c (nE.take k));have hlk:(oz c (nE.take k)).length≤nE.length:=by
   unfold oz;refine Nat.le_trans (List.length_filter_le _ _) ?_;rw[List.length_take];omega
  rw[e0];generalize oz c (nE.take k)=L at hok hlk;generalize nE.getD k (0,0,0)=e at hg hge;obtain⟨i,to,t⟩:=e;have hi:i<N:=hge.a;have hge1:to<N:=hge.b;have hlc:=wz N c;have h1:(fb N c).getD to false=c to:=s6 hge1;have h2:(fb N c).getD i false=c i:=s6 hi;have hkl:k<(nE.map cr).length:=by rw[hlA];exact hk
  have hm0:(cr (i,to,t)).1=(i:Int):=rfl;have hm1:(cr (i,to,t)).2.1=(to:Int):=rfl;have hm2:(cr (i,to,t)).2=bw (to,t):=rfl;have hm3:(bw (to,t)).1=(to:Int):=rfl;cases hv:c i with
  |false=>
   rw[hv]at h2;rw[List.filter_cons_of_neg (by simp[hv]),List.filter_nil,List.append_nil];simp(disch:=omega)only[fp,hg,hm0,hlc,h2,aj,rs]
  |true=>
   rw[hv]at h2;cases hu:c to with
   |false=>
    rw[hu]at h1;rw[List.filter_cons_of_neg (by simp[hu]),List.filter_nil,List.append_nil];simp(disch:=omega)only[fp,hg,hm0,hm1,hlc,h1,h2,aj,rs]
   |true=>
    rw[hu]at h1;rw[List.filter_cons_of_pos (by simp only[hv,hu,Bool.and_self]),List.filter_nil];have e5:grp (L++[(i,to,t)])=q4r (grp L) (i,to,t):=by unfold grp;rw[List.foldl_append];rfl
    rw[e5];unfold q4r;simp only[];have hmi:=q0p i (grp L) 0;cases hk2:kIx (grp L) i with
    |none=>
     rw[hk2]at hmi;have hmi:mIx (.int .i64) (i:Int) ((grp L).map j6) 0=none:=hmi;have e6:((grp L++[(i,[(to,t)])]).map j6)=(grp L).map j6++[((i:Int),[bw (to,t)])]:=by rw[List.map_append];rfl
     simp only[e6];simp(disch:=omega)only[fp,hg,hm0,hm1,hm2,hm3,hlc,h1,h2,aj,rs];split
     ·rename_i ix h;exact absurd (h.symm.trans hmi) (by simp)
     ·rfl
    |some j=>
     rw[hk2]at hmi;have hmi:mIx (.int .i64) (i:Int) ((grp L).map j6) 0=some j:=hmi;obtain⟨q1,q2⟩:=qx5 hk2;have q3:=jbg hok q1;have e7:t5 ((grp L).map j6) j++[bw (to,t)]=(((grp L).getD j (0,[])).2++[(to,t)]).map bw:=by
      rw[q27 q1,List.map_append];rfl
     have e8:=jaw q1 (((grp L).getD j (0,[])).2++[(to,t)]);rw[q2]at e8;have e9:mIx (.int .i64) (i:Int) (((grp L).set j (i,((grp L).getD j (0,[])).2++[(to,t)])).map j6) 0=some j:=by
      have:=q0p i ((grp L).set j (i,((grp L).getD j (0,[])).2++[(to,t)])) 0;rw[jao hk2]at this;exact this
     simp only[];rw[←e8];have e9:mIx (.int .i64) (i:Int) (qfw ((grp L).map j6) j ((((grp L).getD j (0,[])).2++[(to,t)]).map bw)) 0=some j:=(congrArg (fun l:List (Int×List ab)=>mIx (.int .i64) (i:Int) l 0) e8).trans e9;simp(disch:=omega)only[fp,hg,hm0,hm1,hm2,hm3,hlc,h1,h2,aj,rs];split
     ·rename_i ix h;obtain rfl:ix=j:=Option.some.inj (h.symm.trans hmi);rw[e7];have hb:Nat.blt ix ((grp L).map j6).length=true:=by rw[Nat.blt_eq,List.length_map];exact q1
      have hb2:(Nat.beq 2 2&&Nat.beq ix ix&&Nat.beq 0 0)=true:=by simp
      have hml:(t5 ((grp L).map j6) ix).length≤nE.length:=by rw[q27 q1,List.length_map];omega
      rw[yi hb,qxq (by omega) (by omega),yi hb2];refine yi ?_ _;split
      ·rename_i i' h';obtain rfl:i' =ix:=Option.some.inj (h'.symm.trans e9);exact Nat.beq_refl _
      ·rename_i h';exact absurd (h'.symm.trans e9) (by simp)
     ·rename_i h;exact absurd (h.symm.trans hmi) (by simp)
 ·simp(disch:=omega)only[fp,hlA,rs]
end Go.Proofs.Ytokeielgplbdeaa
