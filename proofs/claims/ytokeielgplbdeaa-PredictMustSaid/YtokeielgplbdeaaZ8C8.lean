/-
  Predict: the best completion of program and reference.
-/
import Derived.Test.YtokeielgplbdeaaZ8C7
set_option linter.all false
namespace Go.Proofs.Ytokeielgplbdeaa
open Go.K Go.M
def pf(w:Nat→Int)(d:p0)(v:xf)(q:Nat×Nat):Bool:=match d q.1 with|some u=>decide (u.1+w q.2=v.1)&&decide (u.2+1=v.2)|none=>false
def nxP(w:Nat→Int)(d:p0)(v:xf)(i:Nat)(e:Eg):Bool:=decide (e.1=i)&&pf w d v e.2
theorem qrz{α:Type}{p q:α→Bool}:∀{l:List α},(∀x∈l,p x=q x)→l.find? p=l.find? q
 |[],_=>rfl
 |x::l,h=>by
  rw[List.find?_cons,List.find?_cons,h x List.mem_cons_self,qrz fun y hy=>h y (List.mem_cons_of_mem _ hy)]
theorem q9u(L:List Eg)(i:Nat)(p:Nat×Nat→Bool):(jh L i).find? p=(L.find? fun e=>decide (e.1=i)&&p e.2).map fun e=>e.2:=by
 unfold jh
 induction L with
 |nil=>rfl
 |cons e L ih=>
  by_cases h:e.1=i
  ·rw[List.filter_cons_of_pos (p:=fun e:Eg=>decide (e.1=i)) (decide_eq_true h),List.map_cons,List.find?_cons,List.find?_cons,decide_eq_true h,Bool.true_and];cases p e.2 with
   |true=>rfl
   |false=>exact ih
  ·rw[List.filter_cons_of_neg (p:=fun e:Eg=>decide (e.1=i)) (by simp[h]),List.find?_cons,decide_eq_false h,Bool.false_and];exact ih
theorem qvq{α:Type}(l:List α)(k:Nat)(z:α)(h:k<l.length):l.drop k=l.getD k z::l.drop (k+1):=by
 rw[List.drop_eq_getElem_cons h,List.getD_eq_getElem?_getD,List.getElem?_eq_getElem h];rfl
section
variable {n : cj} {m : List Int} {M : Nat} {σ : pb} {N g : Nat} {nE : List Eg} {c : Mk} {ts : List af} {sl : Bool} {d : p0}
theorem DistOK.cd(h:GG n m M σ N g nE c)(hd:DistOK σ N g nE c n.2.1.length ts sl d){i:Nat}{u:xf}(hi:d i=some u):c i=true:=by
 obtain⟨l,h1,_⟩:=qfb (hd.snd i u hi);exact(h.leads i).2 ⟨l,h1⟩
theorem jbl(h:GG n m M σ N g nE c)(hd:DistOK σ N g nE c n.2.1.length ts sl d)(w:Nat→Int)(v:xf)(i:Nat):(jh (ov c nE) i).find? (pf w d v)=(nE.find? (nxP w d v i)).map fun e=>e.2:=by
 rw[q9u];congr 1;unfold ov;rw[List.find?_filter];refine qrz fun e he=> ?_
 unfold nxP;cases hc:pf w d v e.2 with
 |false=>simp
 |true=>
  have hu:c e.2.1=true:=by
   unfold pf at hc;cases hu:d e.2.1 with
   |none=>rw[hu]at hc;cases hc
   |some u=>exact hd.cd h hu
  have h2:=h.step he hu;rw[hu,h2];simp
theorem jd0(hd:DistOK σ N g nE c n.2.1.length ts sl d){i:Nat}{v:xf}(hi:d i=some v)(hp:0<v.2):∃e,nE.find? (nxP (kd ts sl) d v i)=some e∧e∈nE∧e.1=i∧∃u,d e.2.1=some u∧u.1+kd ts sl e.2.2=v.1∧u.2+1=v.2:=by
 have hex:∃e∈nE,nxP (kd ts sl) d v i e=true:=by
  have hw:=hd.snd i v hi;generalize hv:v=v0 at hw;cases hw with
  |nil=>rw[hv]at hp;exact absurd hp (by simp)
  | @cons _ b t u he hw' =>
   obtain⟨u',h1,h2⟩:=hd.opt b u hw';obtain⟨v',h3,h4⟩:=hd.opt i _ (Wk.cons he (hd.snd b u' h1));rw[hi,hv]at h3;cases h3;have h5:=qly h4 (qlx (kd ts sl t) h2);have h6:=congrArg (fun x:xf=>x.1) h5;have h7:=congrArg (fun x:xf=>x.2) h5;have h8:yx (kd ts sl t) u' =yx (kd ts sl t) u:=qly (qlx _ h2) h4;have h9:=congrArg (fun x:xf=>x.1) h8;have h10:=congrArg (fun x:xf=>x.2) h8;refine⟨(i,b,t),he,?_⟩;unfold nxP pf;simp only[h1];rw[decide_eq_true (show u'.1+kd ts sl t=_ from h9),decide_eq_true (show u'.2+1=_ from h10)];rfl
 cases hf:nE.find? (nxP (kd ts sl) d v i)with
 |none=>
  obtain⟨e,he,hp⟩:=hex;have:=List.find?_eq_none.1 hf e he;exact absurd hp this
 |some e=>
  have h1:=List.find?_some hf;refine⟨e,rfl,List.mem_of_find?_eq_some hf,?_⟩;unfold nxP pf at h1;rw[Bool.and_eq_true]at h1;refine⟨of_decide_eq_true h1.1,?_⟩;cases hu:d e.2.1 with
  |none=>rw[hu]at h1;cases h1.2
  |some u=>
   rw[hu]at h1;have h2:=Bool.and_eq_true _ _▸h1.2;exact⟨u,rfl,of_decide_eq_true h2.1,of_decide_eq_true h2.2⟩
theorem jed(h:GG n m M σ N g nE c)(i:Nat):(jh (ov c nE) i).Pairwise fun a b=>a.2<b.2:=by
 have h1:=h.ok.srt;rw[h.mvs,List.pairwise_map]at h1;unfold jh ov;rw[List.pairwise_map];have h2:=(h1.sublist (List.filter_sublist (p:=fun e=>c e.1&&c e.2.1))).sublist (List.filter_sublist (p:=fun e=>decide (e.1=i)));refine List.Pairwise.imp_of_mem (fun ha hb hab=> ?_) h2;have ha:=of_decide_eq_true (List.mem_filter.1 ha).2;have hb:=of_decide_eq_true (List.mem_filter.1 hb).2;unfold jav at hab;simp only[cn,mvA]at hab;omega
def q9q(o:Option (Nat×Nat)):Int×Int:=match o with|some q=>((q.1:Int),(q.2:Int))|none=>(-1,0)
theorem q87(h:GG n m M σ N g nE c)(hts:du ts n.2.1.length=true)(hd:DistOK σ N g nE c n.2.1.length ts sl d){W:Int→Option Int}(hW:Wt W (kd ts sl) n.2.1.length){i:Nat}(hi:i<N){v:xf}(hv:d i=some v)(g30:List (Int×List ab))(g31 g32:Int)(out:List Int)(A:List (Nat×Nat))(hA:A.length≤100000)(hg:∀q∈A,q.1<N∧q.2<n.2.1.length)(hs:A.Pairwise fun a b=>a.2<b.2):
  qxf W (nm N d) (i:Int) (A.map bw) ((A.map bw).length:Int) g30 g31 g32 out (0,-1,0)=some (.inl (q9q (A.find? (pf (kd ts sl) d v)))):=by
 have hlA:(A.map bw).length=A.length:=by rw[List.length_map]
 rw[hlA];have eT:A.find? (pf (kd ts sl) d v)=(A.take A.length).find? (pf (kd ts sl) d v):=by rw[List.take_length]
 rw[eT];refine jy (fun k:Nat=>((k:Int),(q9q ((A.take k).find? (pf (kd ts sl) d v))).1,(q9q ((A.take k).find? (pf (kd ts sl) d v))).2)) A.length (bm (by omega)) _ (fun k hk=> ?_) ?_ _ (by rfl)
 ·have e1:(A.take (k+1)).find? (pf (kd ts sl) d v)=((A.take k).find? (pf (kd ts sl) d v)).or (bif pf (kd ts sl) d v (A.getD k (0,0))then some (A.getD k (0,0))else none):=by
   rw[cr A k (0,0) hk,List.find?_append,List.find?_cons];cases pf (kd ts sl) d v (A.getD k (0,0))<;>rfl
  rw[e1];have hlt:∀q0,(A.take k).find? (pf (kd ts sl) d v)=some q0→q0.2<(A.getD k (0,0)).2:=fun q0 hq=>by
   have h1:=List.mem_of_find?_eq_some hq;have h2:(A.take k++A.drop k).Pairwise fun a b=>a.2<b.2:=by rw[List.take_append_drop];exact hs
   refine(List.pairwise_append.1 h2).2.2 q0 h1 _ ?_;rw[qvq A k (0,0) hk];exact List.mem_cons_self
  have hgk:(A.map bw).getD k ab.z=bw (A.getD k (0,0)):=i9 _ _ _ _ _ hk;have hqm:=hg _ (aw (0,0) hk);generalize(A.take k).find? (pf (kd ts sl) d v)=o at hlt;generalize A.getD k (0,0)=q at hgk hqm hlt;have hkl:k<(A.map bw).length:=by rw[hlA];exact hk
  have hlo:=zp N d;have h1:(nm N d).getD q.1 ae.z=n5 (d q.1):=wu hqm.1 _;have h2:(nm N d).getD i ae.z=n5 (d i):=wu hi _;rw[hv]at h2;have hWq:=hW.eq q.2 hqm.2;have hWb:=hW.b q.2 hqm.2;unfold pf;generalize kd ts sl q.2=wq at hWq hWb⊢;cases hu:d q.1 with
  |none=>
   rw[hu]at h1;simp only[cond_false,Option.or_none];simp(disch:=omega)only[qd6,hgk,qjz,qk3,h1,n5,al,rs]
  |some u=>
   rw[hu]at h1;have hb:=hd.bd _ _ hu;simp only[];by_cases ha:u.1+wq=v.1
   ·by_cases hb2:u.2+1=v.2
    ·rw[decide_eq_true ha,decide_eq_true hb2];cases o with
     |none=>
      simp only[Bool.and_true,cond_true,Option.none_or];simp(disch:=omega)only[qd6,hgk,qjz,qk3,h1,h2,n5,hWq,decide_eq_true ha,decide_eq_true hb2,q9q,al,rs];rfl
     |some q0=>
      have hlt0:=hlt q0 rfl;simp only[Bool.and_true,cond_true,Option.some_or];rw[show q9q (some q0)=((q0.1:Int),(q0.2:Int))from rfl];simp only[];simp(disch:=omega)only[qd6,hgk,qjz,qk3,h1,h2,n5,hWq,decide_eq_true ha,decide_eq_true hb2,al,rs]
    ·rw[decide_eq_true ha,decide_eq_false hb2];simp only[Bool.and_false,cond_false,Option.or_none];simp(disch:=omega)only[qd6,hgk,qjz,qk3,h1,h2,n5,hWq,decide_eq_true ha,decide_eq_false hb2,al,rs]
   ·rw[decide_eq_false ha];simp only[Bool.false_and,cond_false,Option.or_none];simp(disch:=omega)only[qd6,hgk,qjz,qk3,h1,h2,n5,hWq,decide_eq_false ha,al,rs]
 ·simp(disch:=omega)only[qd6,hlA,rs]
theorem jeh(h:GG n m M σ N g nE c)(hts:du ts n.2.1.length=true)(hd:DistOK σ N g nE c n.2.1.length ts sl d){i:Nat}(hi:i<N){v:xf}(hv:d i=some v)(st:List (List Int))(fu:Bool)(fi:Int)(can:List Bool)(out:List Int)(ho:out.length≤1000){e0:Eg}(he0:nE.find? (nxP (kd ts sl) d v i)=some e0):
  qa4 ts sl (qj N d) (i:Int) st (nE.map cn) fu fi can out 0=some (.inl ((e0.2.1:Int),out++[(e0.2.2:Int)])):=by
 have hlen:=h.len;have hlA:(nE.map cn).length=nE.length:=by rw[List.length_map]
 have key:∀(f k:Nat),k+f=nE.length→(nE.drop k).find? (nxP (kd ts sl) d v i)=some e0→
   la (fun a=>c6 ts sl (qj N d) (i:Int) st (nE.map cn) fu fi can out a (fun a' =>some (.next a')) (fun e=>some (.done e)) (fun r=>some (.ret r))) (f+1) (k:Int)=some (.inl ((e0.2.1:Int),out++[(e0.2.2:Int)])):=by
  intro f
  induction f with
  |zero=>
   intro k hk hf;rw[List.drop_eq_nil_of_le (by omega)]at hf;cases hf
  |succ f ih=>
   intro k hk hf;have hkn:k<nE.length:=by omega
   have hgk:(nE.map cn).getD k aq.z=cn (nE.getD k (0,0,0)):=i9 _ _ _ _ _ hkn;have hkl:k<(nE.map cn).length:=by rw[hlA];exact hkn
   have hge:=h.good _ (aw (0,0,0) hkn);rw[qvq nE k (0,0,0) hkn,List.find?_cons]at hf;have ih' :=ih (k+1) (by omega);rw[a8];generalize nE.getD k (0,0,0)=e at hgk hge hf;obtain⟨x,y,t⟩:=e;have hx:x<N:=hge.a;have hy:y<N:=hge.b;have ht:t<ts.length:=by rw[jl hts];exact hge.t
   have hm0:(cn (x,y,t)).1=(x:Int):=rfl;have hm1:(cn (x,y,t)).2.1=(y:Int):=rfl;have hm2:(cn (x,y,t)).2.2.1=(t:Int):=rfl;have hlo:=zq N d;have h1:(qj N d).getD y af.z=o6 (d y):=wv hy _;have h2:(qj N d).getD i af.z=o6 (d i):=wv hi _;rw[hv]at h2;have hWb:=ul hts sl t ht;have hcost:v7 (ts.getD t af.z) sl=some (kd ts sl t):=q4v _ _;have hgo:nxP (kd ts sl) d v i (x,y,t)=false→(c6 ts sl (qj N d) (i:Int) st (nE.map cn) fu fi can out (k:Int) (fun a' =>some (.next a')) (fun e=>some (.done e)) (fun r=>some (.ret r)):Option (LR Int (Int×List Int) (List Int)))=some (.next ((k+1:Nat):Int))→bnd (c6 ts sl (qj N d) (i:Int) st (nE.map cn) fu fi can out (k:Int) (fun a' =>some (.next a')) (fun e=>some (.done e)) (fun r=>some (.ret r)):Option (LR Int (Int×List Int) (List Int))) (fun z=>lr z (la (fun a=>c6 ts sl (qj N d) (i:Int) st (nE.map cn) fu fi can out a (fun a' =>some (.next a')) (fun e=>some (.done e)) (fun r=>some (.ret r))) (f+1)))=some (.inl ((e0.2.1:Int),out++[(e0.2.2:Int)])):=fun a1 a2=>by
    rw[a1]at hf;rw[a2];exact ih' hf
   by_cases hxi:x=i
   ·subst hxi;cases hu:d y with
    |none=>
     rw[hu]at h1;refine hgo (by unfold nxP pf;simp[hu]) ?_;simp(disch:=omega)only[c6,hgk,hm0,hm1,hm2,h1,o6,al,rs]
    |some u=>
     rw[hu]at h1;have hb:=hd.bd _ _ hu;by_cases ha:u.1+kd ts sl t=v.1
     ·by_cases hb2:u.2+1=v.2
      ·have hP:nxP (kd ts sl) d v x (x,y,t)=true:=by
        unfold nxP pf;simp[hu,ha,hb2]
       rw[hP]at hf;cases hf;simp(disch:=omega)only[c6,hgk,hm0,hm1,hm2,h1,h2,o6,hcost,decide_eq_true ha,decide_eq_true hb2,Int.toNat_natCast,rs];rfl
      ·refine hgo (by unfold nxP pf;simp[hu,ha,hb2]) ?_;simp(disch:=omega)only[c6,hgk,hm0,hm1,hm2,h1,h2,o6,hcost,decide_eq_true ha,decide_eq_false hb2,Int.toNat_natCast,al,rs]
     ·refine hgo (by unfold nxP pf;simp[hu,ha]) ?_;simp(disch:=omega)only[c6,hgk,hm0,hm1,hm2,h1,h2,o6,hcost,decide_eq_false ha,Int.toNat_natCast,al,rs]
   ·refine hgo (by unfold nxP pf;simp[hxi]) ?_;have hxf:decide ((x:Int)=(i:Int))=false:=decide_eq_false (by omega);simp(disch:=omega)only[c6,hgk,hm0,hm1,hm2,hxf,al,rs]
 have:=key nE.length 0 (by omega) (by rw[List.drop_zero];exact he0);exact ib this (bm (by omega))
theorem jkr(h:GG n m M σ N g nE c)(hts:du ts n.2.1.length=true)(hd:DistOK σ N g nE c n.2.1.length ts sl d){W:Int→Option Int}(hW:Wt W (kd ts sl) n.2.1.length)(g31 g32:Int)(st:List (List Int))(fu:Bool)(fi:Int)(can:List Bool):∀(f i:Nat) (v:xf) (o:List Int),d i=some v→v.2=(f:Int)→i<N→o.length+f≤500→
  ∃l,tj (fun e=>e∈nE) i l g∧wtL (kd ts sl) l=v.1∧l.length=f∧
   la (fun a=>qqv W (nm N d) (gEs c nE) g31 g32 a.1 a.2 (fun a' =>some (.next a')) (fun e=>some (.done e)) (fun r=>some (.ret r))) (f+1) ((i:Int),o)=some (.inl (o++l.map fun e=>(e.2.2:Int)))∧
   la (fun a=>nv ts sl (qj N d) st (nE.map cn) fu fi can a.1 a.2 (fun a' =>some (.next a')) (fun e=>some (.done e)) (fun r=>some (.ret r))) (f+1) ((i:Int),o)=some (.inl (o++l.map fun e=>(e.2.2:Int))):=by
 intro f
 induction f with
 |zero=>
  intro i v o hv hvf hi ho;have hlp:=zp N d;have h1:(nm N d).getD i ae.z=n5 (d i):=wu hi _;have hlr:=zq N d;have h2:(qj N d).getD i af.z=o6 (d i):=wv hi _;obtain⟨l,h3,h4⟩:=qfb (hd.snd i v hv);rw[hv]at h1 h2;have h5:(l.length:Int)=0:=by have:=congrArg (fun x:xf=>x.2) h4;simp only[]at this;omega
  cases l with
  |cons e l=>simp only[List.length_cons]at h5;omega
  |nil=>
   refine⟨[],h3,(congrArg (fun x:xf=>x.1) h4).symm,rfl,?_,?_⟩
   ·rw[a8,List.map_nil,List.append_nil];simp(disch:=omega)only[qqv,h1,n5,rs];rfl
   ·rw[a8,List.map_nil,List.append_nil];simp(disch:=omega)only[nv,h2,o6,rs];rfl
 |succ f ih=>
  intro i v o hv hvf hi ho;have hlp:=zp N d;have h1:(nm N d).getD i ae.z=n5 (d i):=wu hi _;have hlr:=zq N d;have h2:(qj N d).getD i af.z=o6 (d i):=wv hi _;rw[hv]at h1 h2;obtain⟨e0,he0,hm,hei,u,hu,hu1,hu2⟩:=jd0 hd hv (by omega);have hge:=h.good e0 hm;obtain⟨l,l1,l2,l3,l4,l5⟩:=ih e0.2.1 u (o++[(e0.2.2:Int)]) hu (by omega) hge.b (by rw[List.length_append,List.length_singleton];omega);have hrow:=qdl h.gl' i;have h3:=q87 h hts hd hW hi hv (gEs c nE) g31 g32 o (jh (ov c nE) i) (by omega) (fun q hq=>⟨(h.gl'.good _ (ff.1 hq)).b,(h.gl'.good _ (ff.1 hq)).t⟩) (jed h i);rw[jbl h hd,he0]at h3;have h4:=jeh h hts hd hi hv st fu fi can o (by omega) he0;have hM:AM (gEs c nE) (ov c nE):=q2e _;generalize gEs c nE=M at h3 l4 hM⊢;have h5:qxf W (nm N d) (i:Int) (jb ab.ty (cb (.int .i64) (i:Int) M)) ((jb ab.ty (cb (.int .i64) (i:Int) M)).length:Int) M g31 g32 o (0,-1,0)=some (.inl ((e0.2.1:Int),(e0.2.2:Int))):=(congrArg (fun A:List ab=>qxf W (nm N d) (i:Int) A (A.length:Int) M g31 g32 o (0,-1,0)) (hM i)).trans h3;refine⟨e0::l,⟨hei,hm,l1⟩,?_,?_,?_,?_⟩
  ·rw[rm];omega
  ·rw[List.length_cons];omega
  ·rw[a8,List.map_cons,List.append_cons,←l4];simp(disch:=omega)only[qqv,h1,h5,n5,Int.toNat_natCast,rs];rfl
  ·rw[a8,List.map_cons,List.append_cons,←l5];simp(disch:=omega)only[nv,h2,h4,o6,Int.toNat_natCast,rs];rfl
theorem jb4(h:GG n m M σ N g nE c)(hts:du ts n.2.1.length=true)(hd:DistOK σ N g nE c n.2.1.length ts sl d){v:xf}(hv:d 0=some v){W:Int→Option Int}(hW:Wt W (kd ts sl) n.2.1.length):
  ∃l,tj (fun e=>e∈nE) 0 l g∧wtL (kd ts sl) l=v.1∧l.length≤100∧(l.length:Int)=v.2∧jhh (gEs c nE) (g:Int) (N:Int) W sl=some (l.map fun e=>(e.2.2:Int))∧yh (rGr σ N g nE c) ts sl=some (l.map fun e=>(e.2.2:Int)):=by
 have hb:=hd.bd _ _ hv;obtain⟨f,hf⟩:∃f:Nat,v.2=(f:Int):=⟨v.2.toNat,by omega⟩;obtain⟨l,l1,l2,l3,l4,l5⟩:=jkr h hts hd hW (g:Int) (N:Int) σ.2.1 σ.1 (g:Int) (fb N c) f 0 v [] hv hf h.pos (by simp;omega);have e1:=hd.prg W hW;have e2:=hd.ref;have e3:q88 W (nm N d) (gEs c nE) (g:Int) (N:Int) (0,[])=some (.inl (l.map fun e=>(e.2.2:Int))):=ib l4 (bm (by omega));have e4:qa5 ts sl (qj N d) σ.2.1 (nE.map cn) σ.1 (g:Int) (fb N c) (0,[])=some (.inl (l.map fun e=>(e.2.2:Int))):=ib l5 (bm (by omega));refine⟨l,l1,l2,by omega,by omega,?_,?_⟩
 ·unfold jhh;rw[e1];simp(disch:=omega)only[e3,rs]
 ·unfold yh;rw[e2];simp(disch:=omega)only[e4,rs]
end
end Go.Proofs.Ytokeielgplbdeaa
