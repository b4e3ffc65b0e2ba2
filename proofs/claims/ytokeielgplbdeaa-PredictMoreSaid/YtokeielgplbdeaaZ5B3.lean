/-
  Predict: the graph of a marking.
-/
import Derived.Test.YtokeielgplbdeaaZ5B2
set_option linter.all false
namespace Go.Proofs.Ytokeielgplbdeaa
open Go.K Go.M
abbrev z8:Eg→Bool:=fun _=>true
theorem q18{N TT:Nat}(hN:N≤100000)(nE:List Eg)(hE:∀e∈nE,GdE N TT e)(hl:nE.length≤1000000)(b0:Bool)(c:Mk)(v60:List (Int×List ab))(v61 v62:Int)(st:List (List Int))(mv:List au)(fu:Bool)(g1 g2:Int)(g0:List (Int×List ab)):
  zr (nE.map cw) ((nE.map cw).length:Int) v60 v61 v62 st mv fu g1 g2 g0 (b0,0,fv N c)=some (.inl ((scn z8 nE (b0,c)).1,fv N (scn z8 nE (b0,c)).2)):=by
 have hlA:(nE.map cw).length=nE.length:=by rw[List.length_map]
 rw[hlA];have eT:scn z8 nE (b0,c)=scn z8 (nE.take nE.length) (b0,c):=by rw[List.take_length]
 rw[eT];refine jo (fun k:Nat=>((scn z8 (nE.take k) (b0,c)).1,(k:Int),fv N (scn z8 (nE.take k) (b0,c)).2)) nE.length (bz (by omega)) _ (fun k hk=> ?_) ?_ _ (by rfl)
 ·have e1:scn z8 (nE.take (k+1)) (b0,c)=qch z8 (scn z8 (nE.take k) (b0,c)) (nE.getD k (0,0,0)):=by
   rw[cx nE k (0,0,0) hk];unfold scn;rw[List.foldl_append];rfl
  have hg:(nE.map cw).getD k au.z=cw (nE.getD k (0,0,0)):=i4 _ _ _ _ _ hk;have hge:=hE _ (ba (0,0,0) hk);rw[e1];generalize scn z8 (nE.take k) (b0,c)=s;obtain⟨b1,c1⟩:=s;generalize nE.getD k (0,0,0)=e at hg hge;obtain⟨i,to,t⟩:=e;have hi:i<N:=hge.a;have hge1:to<N:=hge.b;have hlc:=wa N c1;have h1:(fv N c1).getD to false=c1 to:=sq hge1;have h2:(fv N c1).getD i false=c1 i:=sq hi;have hs:=qkh N c1 i;have hkl:k<(nE.map cw).length:=by rw[hlA];exact hk
  have hm0:(cw (i,to,t)).1=(i:Int):=rfl;have hm1:(cw (i,to,t)).2.1=(to:Int):=rfl;unfold qch;simp only[];cases hv:c1 to with
  |false=>
   rw[hv]at h1;simp(disch:=omega)only[il,hg,hm0,hm1,hlc,h1,Bool.true_and,Bool.false_and,aq,rs]
  |true=>
   rw[hv]at h1;cases hu:c1 i with
   |true=>
    rw[hu]at h2;simp(disch:=omega)only[il,hg,hm0,hm1,hlc,h1,h2,Bool.not_true,Bool.true_and,aq,rs]
   |false=>
    rw[hu]at h2;simp(disch:=omega)only[il,hg,hm0,hm1,hlc,h1,h2,hs,Bool.not_false,Bool.true_and,aq,rs]
 ·simp(disch:=omega)only[il,hlA,rs]
theorem q95{N TT g:Nat}(hN:N≤100000)(nE:List Eg)(hE:∀e∈nE,GdE N TT e)(hl:nE.length≤1000000)(v60:List (Int×List ab))(v61 v62:Int)(st:List (List Int))(fu:Bool)(g1 g2:Int)(g0:List (Int×List ab)):∀(f k:Nat) (c:Mk),k+f=N→Sou (EP z8 nE) g c→Cov (EP z8 nE) g k c→
  ∃c',lb (fun a=>im v60 v61 v62 st (nE.map cw) fu g1 g2 g0 a.1 a.2 (fun a' =>some (.next a')) (fun e=>some (.done e)) (fun r=>some (.ret r))) (f+2) (true,fv N c)=some (.inl (fv N c'))∧Sou (EP z8 nE) g c' ∧All (EP z8 nE) g c' :=by
 intro f
 induction f with
 |zero=>
  intro k c hk hs ha;have ho:=q07 (N:=N) (fun e he=>(hE e he.1).a) (by omega) ha;have hp:=qos (P:=z8) hs ho nE false fun e he hp=>⟨he,hp⟩
  have h0:=q18 hN nE hE hl false c v60 v61 v62 st (nE.map cw) fu g1 g2 g0;rw[hp]at h0;refine⟨c,?_,hs,ho⟩;rw[bh];simp(disch:=omega)only[im,h0,rs];rfl
 |succ f ih=>
  intro k c hk hs ha;have h0:=q18 hN nE hE hl false c v60 v61 v62 st (nE.map cw) fu g1 g2 g0;have hs' :=qvt (P:=z8) nE (false,c) (fun e he hp=>(⟨he,hp⟩:EP z8 nE e)) hs;have ha' :=q2g (P:=z8) (L:=nE) (s:=(false,c)) (fun e he=>he) ha;rw[bh];cases hc:(scn z8 nE (false,c)).1 with
  |false=>
   obtain⟨e2,e3⟩:=qq1 _ _ hc;rw[e2]at h0;refine⟨c,?_,hs,qov (P:=z8) (L:=nE) (fun e he=>he) (ha g [] rfl (Nat.zero_le _)) e3⟩;simp(disch:=omega)only[im,h0,rs];rfl
  |true=>
   rw[hc]at h0;obtain⟨d',q1,q2⟩:=ih (k+1) _ (by omega) hs' ha';refine⟨d',?_,q2⟩;rw[←q1];simp(disch:=omega)only[im,h0,rs];rfl
def qr(c:Mk)(nE:List Eg):List Eg:=nE.filter fun e=>c e.1&&c e.2.1
theorem q9i{es:Ens}{i j:Nat}(h:kIx es i=some j)(x:List (Nat×Nat)):kIx (es.set j (i,x)) i=some j:=by
 obtain⟨h1,_,h3⟩:=uf (0,[]) h;refine q1j (0,[]) (by rw[List.length_set];exact h1) ?_ fun k hk=> ?_
 ·rw[List.getD_eq_getElem?_getD,List.getElem?_set_self h1];exact decide_eq_true rfl
 ·rw[List.getD_eq_getElem?_getD,List.getElem?_set_ne (by omega),←List.getD_eq_getElem?_getD];exact h3 k hk
theorem q1y{es:Ens}{j:Nat}(h:j<es.length):tl (es.map j5) j=(es.getD j (0,[])).2.map b8:=by
 unfold tl;rw[List.getElem?_map,List.getElem?_eq_getElem h,m6 es j _ h];rfl
theorem q9t{es:Ens}{j:Nat}(h:j<es.length)(x:List (Nat×Nat)):qew (es.map j5) j (x.map b8)=(es.set j ((es.getD j (0,[])).1,x)).map j5:=by
 unfold qew;rw[List.getElem?_map,List.getElem?_eq_getElem h,m6 es j _ h,List.map_set];rfl
theorem jab{L:List Eg}{es:Ens}(h:GrpOK L es){j:Nat}(hj:j<es.length):(es.getD j (0,[])).2.length≤L.length:=by
 rw[(h.row _ (ba (0,[]) hj)).1];unfold jb;rw[List.length_map];exact List.length_filter_le _ _
theorem q96{N TT:Nat}(hN:N≤100000)(nE:List Eg)(hE:∀e∈nE,GdE N TT e)(hl:nE.length≤100000)(c:Mk)(v60:List (Int×List ab))(v61 v62:Int)(g1 g2:Int):
  zw (fv N c) (nE.map cw) ((nE.map cw).length:Int) v60 v61 v62 g1 g2 (0,[])=some (.inl ((grp (qr c nE)).map j5)):=by
 have hlA:(nE.map cw).length=nE.length:=by rw[List.length_map]
 rw[hlA];have eT:grp (qr c nE)=grp (qr c (nE.take nE.length)):=by rw[List.take_length]
 rw[eT];refine jo (fun k:Nat=>((k:Int),(grp (qr c (nE.take k))).map j5)) nE.length (bz (by omega)) _ (fun k hk=> ?_) ?_ _ (by rfl)
 ·have e0:qr c (nE.take (k+1))=qr c (nE.take k)++[nE.getD k (0,0,0)].filter fun e=>c e.1&&c e.2.1:=by
   rw[cx nE k (0,0,0) hk];unfold qr;rw[List.filter_append]
  have hg:(nE.map cw).getD k au.z=cw (nE.getD k (0,0,0)):=i4 _ _ _ _ _ hk;have hge:=hE _ (ba (0,0,0) hk);have hok:=quh (qr c (nE.take k));have hlk:(qr c (nE.take k)).length≤nE.length:=by
   unfold qr;refine Nat.le_trans (List.length_filter_le _ _) ?_;rw[List.length_take];omega
  rw[e0];generalize qr c (nE.take k)=L at hok hlk;generalize nE.getD k (0,0,0)=e at hg hge;obtain⟨i,to,t⟩:=e;have hi:i<N:=hge.a;have hge1:to<N:=hge.b;have hlc:=wa N c;have h1:(fv N c).getD to false=c to:=sq hge1;have h2:(fv N c).getD i false=c i:=sq hi;have hkl:k<(nE.map cw).length:=by rw[hlA];exact hk
  have hm0:(cw (i,to,t)).1=(i:Int):=rfl;have hm1:(cw (i,to,t)).2.1=(to:Int):=rfl;have hm2:(cw (i,to,t)).2=b8 (to,t):=rfl;have hm3:(b8 (to,t)).1=(to:Int):=rfl;cases hv:c i with
  |false=>
   rw[hv]at h2;rw[List.filter_cons_of_neg (by simp[hv]),List.filter_nil,List.append_nil];simp(disch:=omega)only[fw,hg,hm0,hlc,h2,aq,rs]
  |true=>
   rw[hv]at h2;cases hu:c to with
   |false=>
    rw[hu]at h1;rw[List.filter_cons_of_neg (by simp[hu]),List.filter_nil,List.append_nil];simp(disch:=omega)only[fw,hg,hm0,hm1,hlc,h1,h2,aq,rs]
   |true=>
    rw[hu]at h1;rw[List.filter_cons_of_pos (by simp only[hv,hu,Bool.and_self]),List.filter_nil];have e5:grp (L++[(i,to,t)])=q3k (grp L) (i,to,t):=by unfold grp;rw[List.foldl_append];rfl
    rw[e5];unfold q3k;simp only[];have hmi:=qzl i (grp L) 0;cases hk2:kIx (grp L) i with
    |none=>
     rw[hk2]at hmi;have hmi:mIx (.int .i64) (i:Int) ((grp L).map j5) 0=none:=hmi;have e6:((grp L++[(i,[(to,t)])]).map j5)=(grp L).map j5++[((i:Int),[b8 (to,t)])]:=by rw[List.map_append];rfl
     simp only[e6];simp(disch:=omega)only[fw,hg,hm0,hm1,hm2,hm3,hlc,h1,h2,aq,rs];split
     ·rename_i ix h;exact absurd (h.symm.trans hmi) (by simp)
     ·rfl
    |some j=>
     rw[hk2]at hmi;have hmi:mIx (.int .i64) (i:Int) ((grp L).map j5) 0=some j:=hmi;obtain⟨q1,q2⟩:=qw2 hk2;have q3:=jab hok q1;have e7:tl ((grp L).map j5) j++[b8 (to,t)]=(((grp L).getD j (0,[])).2++[(to,t)]).map b8:=by
      rw[q1y q1,List.map_append];rfl
     have e8:=q9t q1 (((grp L).getD j (0,[])).2++[(to,t)]);rw[q2]at e8;have e9:mIx (.int .i64) (i:Int) (((grp L).set j (i,((grp L).getD j (0,[])).2++[(to,t)])).map j5) 0=some j:=by
      have:=qzl i ((grp L).set j (i,((grp L).getD j (0,[])).2++[(to,t)])) 0;rw[q9i hk2]at this;exact this
     simp only[];rw[←e8];have e9:mIx (.int .i64) (i:Int) (qew ((grp L).map j5) j ((((grp L).getD j (0,[])).2++[(to,t)]).map b8)) 0=some j:=(congrArg (fun l:List (Int×List ab)=>mIx (.int .i64) (i:Int) l 0) e8).trans e9;simp(disch:=omega)only[fw,hg,hm0,hm1,hm2,hm3,hlc,h1,h2,aq,rs];split
     ·rename_i ix h;obtain rfl:ix=j:=Option.some.inj (h.symm.trans hmi);rw[e7];have hb:Nat.blt ix ((grp L).map j5).length=true:=by rw[Nat.blt_eq,List.length_map];exact q1
      have hb2:(Nat.beq 2 2&&Nat.beq ix ix&&Nat.beq 0 0)=true:=by simp
      have hml:(tl ((grp L).map j5) ix).length≤nE.length:=by rw[q1y q1,List.length_map];omega
      rw[xy hb,qwo (by omega) (by omega),xy hb2];refine xy ?_ _;split
      ·rename_i i' h';obtain rfl:i' =ix:=Option.some.inj (h'.symm.trans e9);exact Nat.beq_refl _
      ·rename_i h';exact absurd (h'.symm.trans e9) (by simp)
     ·rename_i h;exact absurd (h.symm.trans hmi) (by simp)
 ·simp(disch:=omega)only[fw,hlA,rs]
end Go.Proofs.Ytokeielgplbdeaa
