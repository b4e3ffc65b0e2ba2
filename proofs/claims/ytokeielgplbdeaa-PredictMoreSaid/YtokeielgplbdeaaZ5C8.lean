/-
  Predict: the best completion of program and reference.
-/
import Derived.Test.YtokeielgplbdeaaZ5C7
set_option linter.all false
namespace Go.Proofs.Ytokeielgplbdeaa
open Go.K Go.M
def ov(w:Nat→Int)(d:pd)(v:ve)(q:Nat×Nat):Bool:=match d q.1 with|some u=>decide (u.1+w q.2=v.1)&&decide (u.2+1=v.2)|none=>false
def nxP(w:Nat→Int)(d:pd)(v:ve)(i:Nat)(e:Eg):Bool:=decide (e.1=i)&&ov w d v e.2
theorem qo6{α:Type}{p q:α→Bool}:∀{l:List α},(∀x∈l,p x=q x)→l.find? p=l.find? q
 |[],_=>rfl
 |x::l,h=>by
  rw[List.find?_cons,List.find?_cons,h x List.mem_cons_self,qo6 fun y hy=>h y (List.mem_cons_of_mem _ hy)]
theorem q5o(L:List Eg)(i:Nat)(p:Nat×Nat→Bool):(jb L i).find? p=(L.find? fun e=>decide (e.1=i)&&p e.2).map fun e=>e.2:=by
 unfold jb
 induction L with
 |nil=>rfl
 |cons e L ih=>
  by_cases h:e.1=i
  ·rw[List.filter_cons_of_pos (p:=fun e:Eg=>decide (e.1=i)) (decide_eq_true h),List.map_cons,List.find?_cons,List.find?_cons,decide_eq_true h,Bool.true_and];cases p e.2 with
   |true=>rfl
   |false=>exact ih
  ·rw[List.filter_cons_of_neg (p:=fun e:Eg=>decide (e.1=i)) (by simp[h]),List.find?_cons,decide_eq_false h,Bool.false_and];exact ih
theorem qsp{α:Type}(l:List α)(k:Nat)(z:α)(h:k<l.length):l.drop k=l.getD k z::l.drop (k+1):=by
 rw[List.drop_eq_getElem_cons h,List.getD_eq_getElem?_getD,List.getElem?_eq_getElem h];rfl
section
variable {n : dr} {m : List Int} {M : Nat} {σ : qq} {N g : Nat} {nE : List Eg} {c : Mk} {ts : List af} {sl : Bool} {d : pd}
theorem DistOK.cd(h:GG n m M σ N g nE c)(hd:DistOK σ N g nE c n.2.1.length ts sl d){i:Nat}{u:ve}(hi:d i=some u):c i=true:=by
 obtain⟨l,h1,_⟩:=qd2 (hd.snd i u hi);exact(h.leads i).2 ⟨l,h1⟩
theorem q69(h:GG n m M σ N g nE c)(hd:DistOK σ N g nE c n.2.1.length ts sl d)(w:Nat→Int)(v:ve)(i:Nat):(jb (qr c nE) i).find? (ov w d v)=(nE.find? (nxP w d v i)).map fun e=>e.2:=by
 rw[q5o];congr 1;unfold qr;rw[List.find?_filter];refine qo6 fun e he=> ?_
 unfold nxP;cases hc:ov w d v e.2 with
 |false=>simp
 |true=>
  have hu:c e.2.1=true:=by
   unfold ov at hc;cases hu:d e.2.1 with
   |none=>rw[hu]at hc;cases hc
   |some u=>exact hd.cd h hu
  have h2:=h.step he hu;rw[hu,h2];simp
theorem q9w(hd:DistOK σ N g nE c n.2.1.length ts sl d){i:Nat}{v:ve}(hi:d i=some v)(hp:0<v.2):∃e,nE.find? (nxP (j9 ts sl) d v i)=some e∧e∈nE∧e.1=i∧∃u,d e.2.1=some u∧u.1+j9 ts sl e.2.2=v.1∧u.2+1=v.2:=by
 have hex:∃e∈nE,nxP (j9 ts sl) d v i e=true:=by
  have hw:=hd.snd i v hi;generalize hv:v=v0 at hw;cases hw with
  |nil=>rw[hv]at hp;exact absurd hp (by simp)
  | @cons _ b t u he hw' =>
   obtain⟨u',h1,h2⟩:=hd.opt b u hw';obtain⟨v',h3,h4⟩:=hd.opt i _ (Wk.cons he (hd.snd b u' h1));rw[hi,hv]at h3;cases h3;have h5:=qj5 h4 (qj4 (j9 ts sl t) h2);have h6:=congrArg (fun x:ve=>x.1) h5;have h7:=congrArg (fun x:ve=>x.2) h5;have h8:xx (j9 ts sl t) u' =xx (j9 ts sl t) u:=qj5 (qj4 _ h2) h4;have h9:=congrArg (fun x:ve=>x.1) h8;have h10:=congrArg (fun x:ve=>x.2) h8;refine⟨(i,b,t),he,?_⟩;unfold nxP ov;simp only[h1];rw[decide_eq_true (show u'.1+j9 ts sl t=_ from h9),decide_eq_true (show u'.2+1=_ from h10)];rfl
 cases hf:nE.find? (nxP (j9 ts sl) d v i)with
 |none=>
  obtain⟨e,he,hp⟩:=hex;have:=List.find?_eq_none.1 hf e he;exact absurd hp this
 |some e=>
  have h1:=List.find?_some hf;refine⟨e,rfl,List.mem_of_find?_eq_some hf,?_⟩;unfold nxP ov at h1;rw[Bool.and_eq_true]at h1;refine⟨of_decide_eq_true h1.1,?_⟩;cases hu:d e.2.1 with
  |none=>rw[hu]at h1;cases h1.2
  |some u=>
   rw[hu]at h1;have h2:=Bool.and_eq_true _ _▸h1.2;exact⟨u,rfl,of_decide_eq_true h2.1,of_decide_eq_true h2.2⟩
theorem jac(h:GG n m M σ N g nE c)(i:Nat):(jb (qr c nE) i).Pairwise fun a b=>a.2<b.2:=by
 have h1:=h.ok.srt;rw[h.mvs,List.pairwise_map]at h1;unfold jb qr;rw[List.pairwise_map];have h2:=(h1.sublist (List.filter_sublist (p:=fun e=>c e.1&&c e.2.1))).sublist (List.filter_sublist (p:=fun e=>decide (e.1=i)));refine List.Pairwise.imp_of_mem (fun ha hb hab=> ?_) h2;have ha:=of_decide_eq_true (List.mem_filter.1 ha).2;have hb:=of_decide_eq_true (List.mem_filter.1 hb).2;unfold q6n at hab;simp only[cw,mvA]at hab;omega
def q5n(o:Option (Nat×Nat)):Int×Int:=match o with|some q=>((q.1:Int),(q.2:Int))|none=>(-1,0)
theorem q47(h:GG n m M σ N g nE c)(hts:cq ts n.2.1.length=true)(hd:DistOK σ N g nE c n.2.1.length ts sl d){W:Int→Option Int}(hW:Wt W (j9 ts sl) n.2.1.length){i:Nat}(hi:i<N){v:ve}(hv:d i=some v)(g30:List (Int×List ab))(g31 g32:Int)(out:List Int)(A:List (Nat×Nat))(hA:A.length≤100000)(hg:∀q∈A,q.1<N∧q.2<n.2.1.length)(hs:A.Pairwise fun a b=>a.2<b.2):
  qt6 W (m9 N d) (i:Int) (A.map b8) ((A.map b8).length:Int) g30 g31 g32 out (0,-1,0)=some (.inl (q5n (A.find? (ov (j9 ts sl) d v)))):=by
 have hlA:(A.map b8).length=A.length:=by rw[List.length_map]
 rw[hlA];have eT:A.find? (ov (j9 ts sl) d v)=(A.take A.length).find? (ov (j9 ts sl) d v):=by rw[List.take_length]
 rw[eT];refine jo (fun k:Nat=>((k:Int),(q5n ((A.take k).find? (ov (j9 ts sl) d v))).1,(q5n ((A.take k).find? (ov (j9 ts sl) d v))).2)) A.length (bz (by omega)) _ (fun k hk=> ?_) ?_ _ (by rfl)
 ·have e1:(A.take (k+1)).find? (ov (j9 ts sl) d v)=((A.take k).find? (ov (j9 ts sl) d v)).or (bif ov (j9 ts sl) d v (A.getD k (0,0))then some (A.getD k (0,0))else none):=by
   rw[cx A k (0,0) hk,List.find?_append,List.find?_cons];cases ov (j9 ts sl) d v (A.getD k (0,0))<;>rfl
  rw[e1];have hlt:∀q0,(A.take k).find? (ov (j9 ts sl) d v)=some q0→q0.2<(A.getD k (0,0)).2:=fun q0 hq=>by
   have h1:=List.mem_of_find?_eq_some hq;have h2:(A.take k++A.drop k).Pairwise fun a b=>a.2<b.2:=by rw[List.take_append_drop];exact hs
   refine(List.pairwise_append.1 h2).2.2 q0 h1 _ ?_;rw[qsp A k (0,0) hk];exact List.mem_cons_self
  have hgk:(A.map b8).getD k ab.z=b8 (A.getD k (0,0)):=i4 _ _ _ _ _ hk;have hqm:=hg _ (ba (0,0) hk);generalize(A.take k).find? (ov (j9 ts sl) d v)=o at hlt;generalize A.getD k (0,0)=q at hgk hqm hlt;have hkl:k<(A.map b8).length:=by rw[hlA];exact hk
  have hlo:=yk N d;have h1:(m9 N d).getD q.1 ae.z=nm (d q.1):=vg hqm.1 _;have h2:(m9 N d).getD i ae.z=nm (d i):=vg hi _;rw[hv]at h2;have hWq:=hW.eq q.2 hqm.2;have hWb:=hW.b q.2 hqm.2;unfold ov;generalize j9 ts sl q.2=wq at hWq hWb⊢;cases hu:d q.1 with
  |none=>
   rw[hu]at h1;simp only[cond_false,Option.or_none];simp(disch:=omega)only[qc1,hgk,qia,qjd,h1,nm,aq,rs]
  |some u=>
   rw[hu]at h1;have hb:=hd.bd _ _ hu;simp only[];by_cases ha:u.1+wq=v.1
   ·by_cases hb2:u.2+1=v.2
    ·rw[decide_eq_true ha,decide_eq_true hb2];cases o with
     |none=>
      simp only[Bool.and_true,cond_true,Option.none_or];simp(disch:=omega)only[qc1,hgk,qia,qjd,h1,h2,nm,hWq,decide_eq_true ha,decide_eq_true hb2,q5n,aq,rs];rfl
     |some q0=>
      have hlt0:=hlt q0 rfl;simp only[Bool.and_true,cond_true,Option.some_or];rw[show q5n (some q0)=((q0.1:Int),(q0.2:Int))from rfl];simp only[];simp(disch:=omega)only[qc1,hgk,qia,qjd,h1,h2,nm,hWq,decide_eq_true ha,decide_eq_true hb2,aq,rs]
    ·rw[decide_eq_true ha,decide_eq_false hb2];simp only[Bool.and_false,cond_false,Option.or_none];simp(disch:=omega)only[qc1,hgk,qia,qjd,h1,h2,nm,hWq,decide_eq_true ha,decide_eq_false hb2,aq,rs]
   ·rw[decide_eq_false ha];simp only[Bool.false_and,cond_false,Option.or_none];simp(disch:=omega)only[qc1,hgk,qia,qjd,h1,h2,nm,hWq,decide_eq_false ha,aq,rs]
 ·simp(disch:=omega)only[qc1,hlA,rs]
theorem jag(h:GG n m M σ N g nE c)(hts:cq ts n.2.1.length=true)(hd:DistOK σ N g nE c n.2.1.length ts sl d){i:Nat}(hi:i<N){v:ve}(hv:d i=some v)(st:List (List Int))(fu:Bool)(fi:Int)(can:List Bool)(out:List Int)(ho:out.length≤1000){e0:Eg}(he0:nE.find? (nxP (j9 ts sl) d v i)=some e0):
  zz ts sl (p2 N d) (i:Int) st (nE.map cw) fu fi can out 0=some (.inl ((e0.2.1:Int),out++[(e0.2.2:Int)])):=by
 have hlen:=h.len;have hlA:(nE.map cw).length=nE.length:=by rw[List.length_map]
 have key:∀(f k:Nat),k+f=nE.length→(nE.drop k).find? (nxP (j9 ts sl) d v i)=some e0→
   lb (fun a=>c9 ts sl (p2 N d) (i:Int) st (nE.map cw) fu fi can out a (fun a' =>some (.next a')) (fun e=>some (.done e)) (fun r=>some (.ret r))) (f+1) (k:Int)=some (.inl ((e0.2.1:Int),out++[(e0.2.2:Int)])):=by
  intro f
  induction f with
  |zero=>
   intro k hk hf;rw[List.drop_eq_nil_of_le (by omega)]at hf;cases hf
  |succ f ih=>
   intro k hk hf;have hkn:k<nE.length:=by omega
   have hgk:(nE.map cw).getD k au.z=cw (nE.getD k (0,0,0)):=i4 _ _ _ _ _ hkn;have hkl:k<(nE.map cw).length:=by rw[hlA];exact hkn
   have hge:=h.good _ (ba (0,0,0) hkn);rw[qsp nE k (0,0,0) hkn,List.find?_cons]at hf;have ih' :=ih (k+1) (by omega);rw[bh];generalize nE.getD k (0,0,0)=e at hgk hge hf;obtain⟨x,y,t⟩:=e;have hx:x<N:=hge.a;have hy:y<N:=hge.b;have ht:t<ts.length:=by rw[j8 hts];exact hge.t
   have hm0:(cw (x,y,t)).1=(x:Int):=rfl;have hm1:(cw (x,y,t)).2.1=(y:Int):=rfl;have hm2:(cw (x,y,t)).2.2.1=(t:Int):=rfl;have hlo:=yl N d;have h1:(p2 N d).getD y af.z=og (d y):=vi hy _;have h2:(p2 N d).getD i af.z=og (d i):=vi hi _;rw[hv]at h2;have hWb:=wv hts sl t ht;have hcost:uu (ts.getD t af.z) sl=some (j9 ts sl t):=q06 _ _;have hgo:nxP (j9 ts sl) d v i (x,y,t)=false→(c9 ts sl (p2 N d) (i:Int) st (nE.map cw) fu fi can out (k:Int) (fun a' =>some (.next a')) (fun e=>some (.done e)) (fun r=>some (.ret r)):Option (LR Int (Int×List Int) (List Int)))=some (.next ((k+1:Nat):Int))→bnd (c9 ts sl (p2 N d) (i:Int) st (nE.map cw) fu fi can out (k:Int) (fun a' =>some (.next a')) (fun e=>some (.done e)) (fun r=>some (.ret r)):Option (LR Int (Int×List Int) (List Int))) (fun z=>lr z (lb (fun a=>c9 ts sl (p2 N d) (i:Int) st (nE.map cw) fu fi can out a (fun a' =>some (.next a')) (fun e=>some (.done e)) (fun r=>some (.ret r))) (f+1)))=some (.inl ((e0.2.1:Int),out++[(e0.2.2:Int)])):=fun a1 a2=>by
    rw[a1]at hf;rw[a2];exact ih' hf
   by_cases hxi:x=i
   ·subst hxi;cases hu:d y with
    |none=>
     rw[hu]at h1;refine hgo (by unfold nxP ov;simp[hu]) ?_;simp(disch:=omega)only[c9,hgk,hm0,hm1,hm2,h1,og,aq,rs]
    |some u=>
     rw[hu]at h1;have hb:=hd.bd _ _ hu;by_cases ha:u.1+j9 ts sl t=v.1
     ·by_cases hb2:u.2+1=v.2
      ·have hP:nxP (j9 ts sl) d v x (x,y,t)=true:=by
        unfold nxP ov;simp[hu,ha,hb2]
       rw[hP]at hf;cases hf;simp(disch:=omega)only[c9,hgk,hm0,hm1,hm2,h1,h2,og,hcost,decide_eq_true ha,decide_eq_true hb2,Int.toNat_natCast,rs];rfl
      ·refine hgo (by unfold nxP ov;simp[hu,ha,hb2]) ?_;simp(disch:=omega)only[c9,hgk,hm0,hm1,hm2,h1,h2,og,hcost,decide_eq_true ha,decide_eq_false hb2,Int.toNat_natCast,aq,rs]
     ·refine hgo (by unfold nxP ov;simp[hu,ha]) ?_;simp(disch:=omega)only[c9,hgk,hm0,hm1,hm2,h1,h2,og,hcost,decide_eq_false ha,Int.toNat_natCast,aq,rs]
   ·refine hgo (by unfold nxP ov;simp[hxi]) ?_;have hxf:decide ((x:Int)=(i:Int))=false:=decide_eq_false (by omega);simp(disch:=omega)only[c9,hgk,hm0,hm1,hm2,hxf,aq,rs]
 have:=key nE.length 0 (by omega) (by rw[List.drop_zero];exact he0);exact jm this (bz (by omega))
theorem jgm(h:GG n m M σ N g nE c)(hts:cq ts n.2.1.length=true)(hd:DistOK σ N g nE c n.2.1.length ts sl d){W:Int→Option Int}(hW:Wt W (j9 ts sl) n.2.1.length)(g31 g32:Int)(st:List (List Int))(fu:Bool)(fi:Int)(can:List Bool):∀(f i:Nat) (v:ve) (o:List Int),d i=some v→v.2=(f:Int)→i<N→o.length+f≤500→
  ∃l,IsW (fun e=>e∈nE) i l g∧wtL (j9 ts sl) l=v.1∧l.length=f∧
   lb (fun a=>qn6 W (m9 N d) (gEs c nE) g31 g32 a.1 a.2 (fun a' =>some (.next a')) (fun e=>some (.done e)) (fun r=>some (.ret r))) (f+1) ((i:Int),o)=some (.inl (o++l.map fun e=>(e.2.2:Int)))∧
   lb (fun a=>ng ts sl (p2 N d) st (nE.map cw) fu fi can a.1 a.2 (fun a' =>some (.next a')) (fun e=>some (.done e)) (fun r=>some (.ret r))) (f+1) ((i:Int),o)=some (.inl (o++l.map fun e=>(e.2.2:Int))):=by
 intro f
 induction f with
 |zero=>
  intro i v o hv hvf hi ho;have hlp:=yk N d;have h1:(m9 N d).getD i ae.z=nm (d i):=vg hi _;have hlr:=yl N d;have h2:(p2 N d).getD i af.z=og (d i):=vi hi _;obtain⟨l,h3,h4⟩:=qd2 (hd.snd i v hv);rw[hv]at h1 h2;have h5:(l.length:Int)=0:=by have:=congrArg (fun x:ve=>x.2) h4;simp only[]at this;omega
  cases l with
  |cons e l=>simp only[List.length_cons]at h5;omega
  |nil=>
   refine⟨[],h3,(congrArg (fun x:ve=>x.1) h4).symm,rfl,?_,?_⟩
   ·rw[bh,List.map_nil,List.append_nil];simp(disch:=omega)only[qn6,h1,nm,rs];rfl
   ·rw[bh,List.map_nil,List.append_nil];simp(disch:=omega)only[ng,h2,og,rs];rfl
 |succ f ih=>
  intro i v o hv hvf hi ho;have hlp:=yk N d;have h1:(m9 N d).getD i ae.z=nm (d i):=vg hi _;have hlr:=yl N d;have h2:(p2 N d).getD i af.z=og (d i):=vi hi _;rw[hv]at h1 h2;obtain⟨e0,he0,hm,hei,u,hu,hu1,hu2⟩:=q9w hd hv (by omega);have hge:=h.good e0 hm;obtain⟨l,l1,l2,l3,l4,l5⟩:=ih e0.2.1 u (o++[(e0.2.2:Int)]) hu (by omega) hge.b (by rw[List.length_append,List.length_singleton];omega);have hrow:=qcf h.gl' i;have h3:=q47 h hts hd hW hi hv (gEs c nE) g31 g32 o (jb (qr c nE) i) (by omega) (fun q hq=>⟨(h.gl'.good _ (fg.1 hq)).b,(h.gl'.good _ (fg.1 hq)).t⟩) (jac h i);rw[q69 h hd,he0]at h3;have h4:=jag h hts hd hi hv st fu fi can o (by omega) he0;have hM:AM (gEs c nE) (qr c nE):=qyt _;generalize gEs c nE=M at h3 l4 hM⊢;have h5:qt6 W (m9 N d) (i:Int) (i5 ab.ty (ci (.int .i64) (i:Int) M)) ((i5 ab.ty (ci (.int .i64) (i:Int) M)).length:Int) M g31 g32 o (0,-1,0)=some (.inl ((e0.2.1:Int),(e0.2.2:Int))):=(congrArg (fun A:List ab=>qt6 W (m9 N d) (i:Int) A (A.length:Int) M g31 g32 o (0,-1,0)) (hM i)).trans h3;refine⟨e0::l,⟨hei,hm,l1⟩,?_,?_,?_,?_⟩
  ·rw[pc];omega
  ·rw[List.length_cons];omega
  ·rw[bh,List.map_cons,List.append_cons,←l4];simp(disch:=omega)only[qn6,h1,h5,nm,Int.toNat_natCast,rs];rfl
  ·rw[bh,List.map_cons,List.append_cons,←l5];simp(disch:=omega)only[ng,h2,h4,og,Int.toNat_natCast,rs];rfl
theorem q7s(h:GG n m M σ N g nE c)(hts:cq ts n.2.1.length=true)(hd:DistOK σ N g nE c n.2.1.length ts sl d){v:ve}(hv:d 0=some v){W:Int→Option Int}(hW:Wt W (j9 ts sl) n.2.1.length):
  ∃l,IsW (fun e=>e∈nE) 0 l g∧wtL (j9 ts sl) l=v.1∧l.length≤100∧(l.length:Int)=v.2∧jde (gEs c nE) (g:Int) (N:Int) W sl=some (l.map fun e=>(e.2.2:Int))∧xh (rGr σ N g nE c) ts sl=some (l.map fun e=>(e.2.2:Int)):=by
 have hb:=hd.bd _ _ hv;obtain⟨f,hf⟩:∃f:Nat,v.2=(f:Int):=⟨v.2.toNat,by omega⟩;obtain⟨l,l1,l2,l3,l4,l5⟩:=jgm h hts hd hW (g:Int) (N:Int) σ.2.1 σ.1 (g:Int) (fv N c) f 0 v [] hv hf h.pos (by simp;omega);have e1:=hd.prg W hW;have e2:=hd.ref;have e3:q48 W (m9 N d) (gEs c nE) (g:Int) (N:Int) (0,[])=some (.inl (l.map fun e=>(e.2.2:Int))):=jm l4 (bz (by omega));have e4:z0 ts sl (p2 N d) σ.2.1 (nE.map cw) σ.1 (g:Int) (fv N c) (0,[])=some (.inl (l.map fun e=>(e.2.2:Int))):=jm l5 (bz (by omega));refine⟨l,l1,l2,by omega,by omega,?_,?_⟩
 ·unfold jde;rw[e1];simp(disch:=omega)only[e3,rs]
 ·unfold xh;rw[e2];simp(disch:=omega)only[e4,rs]
end
end Go.Proofs.Ytokeielgplbdeaa
