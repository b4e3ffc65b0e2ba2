/-
  Predict: without is what is reached without a transition.
-/
import Derived.Test.YtokeielgplbdeaaZ6C2
set_option linter.all false
namespace Go.Proofs.Ytokeielgplbdeaa
open Go.K Go.M
theorem qqf:∀(ts l:List Nat),(fk l ts).length≤l.length+ts.length
 |[],l=>Nat.le_refl _
 |t::ts,l=>by
  have h1:=qqf ts (yo l t);have h2:(yo l t).length≤l.length+1:=by unfold yo;split<;>simp
  show(fk (yo l t) ts).length≤_;rw[List.length_cons];omega
def qcb(t:Nat)(q:Nat×Nat):Bool:= !decide (q.2=t)
theorem qx8(ks a b:List Nat):fk ks (a++b)=fk (fk ks a) b:=by
 unfold fk;rw[List.foldl_append]
theorem jco(t:Nat)(A:List (Nat×Nat))(hA:A.length≤100000)(g20:List (Int×List ab))(g21 g22:Int)(ks:List Nat)(hks:ks.length≤100000)(k:Nat)(hk:k≤ks.length):
  jd (t:Int) (A.map bu) ((A.map bu).length:Int) g20 g21 g22 (0,jo ks,qL ks k)=some (.inl (jo (fk ks ((A.filter (qcb t)).map (·.1))),qL (fk ks ((A.filter (qcb t)).map (·.1))) k)):=by
 have hlA:(A.map bu).length=A.length:=by rw[List.length_map]
 rw[hlA];have eT:fk ks ((A.filter (qcb t)).map (·.1))=fk ks (((A.take A.length).filter (qcb t)).map (·.1)):=by rw[List.take_length]
 rw[eT];refine iw (fun i:Nat=>((i:Int),jo (fk ks (((A.take i).filter (qcb t)).map (·.1))),qL (fk ks (((A.take i).filter (qcb t)).map (·.1))) k)) A.length (bm (by omega)) _ (fun i hi=> ?_) ?_ _ (by rfl)
 ·have e1:fk ks (((A.take (i+1)).filter (qcb t)).map (·.1))=bif qcb t (A.getD i (0,0))then yo (fk ks (((A.take i).filter (qcb t)).map (·.1))) (A.getD i (0,0)).1 else fk ks (((A.take i).filter (qcb t)).map (·.1)):=by
   rw[cb A i (0,0) hi,List.filter_append,List.map_append,qx8];cases hP:qcb t (A.getD i (0,0))with
   |true=>rw[List.filter_cons_of_pos hP];rfl
   |false=>rw[List.filter_cons_of_neg (by rw[hP];exact Bool.false_ne_true)];rfl
  have hpre:=(wi (((A.take i).filter (qcb t)).map (·.1)) ks).1;have hlen:(fk ks (((A.take i).filter (qcb t)).map (·.1))).length≤ks.length+A.length:=by
   have h1:=qqf (((A.take i).filter (qcb t)).map (·.1)) ks;have h2:((A.take i).filter (qcb t)).length≤(A.take i).length:=List.length_filter_le _ _;rw[List.length_map]at h1;rw[List.length_take]at h2;omega
  rw[e1];generalize fk ks (((A.take i).filter (qcb t)).map (·.1))=l at hpre hlen;have hg:(A.map bu).getD i ab.z=bu (A.getD i (0,0)):=ii _ _ _ _ _ hi;generalize A.getD i (0,0)=q at hg;have hkl:i<(A.map bu).length:=by rw[hlA];exact hi
  have h1:=qp2 q.1 l;have h2:=x4 l k;unfold qcb;by_cases hq:q.2=t
  ·rw[decide_eq_true hq];simp(disch:=omega)only[dr,hg,qkv,hq,Bool.not_true,aj,rs]
  ·rw[decide_eq_false hq,Bool.not_false,cond_true];have hq' :¬(q.2:Int)=(t:Int):=by omega
   unfold yo;by_cases hm:q.1∈l
   ·rw[if_pos hm];rw[decide_eq_true hm]at h1;simp(disch:=omega)only[dr,hg,qjs,qkv,decide_eq_false hq',Bool.not_false,rs];rw[h1];simp(disch:=omega)only[Bool.not_true,aj,rs]
   ·rw[if_neg hm];rw[decide_eq_false hm]at h1;rw[←qp3 q.1 l hm,qxd l q.1 k (by omega)];simp(disch:=omega)only[dr,hg,qjs,qkv,decide_eq_false hq',Bool.not_false,rs];rw[h1];simp(disch:=omega)only[Bool.not_false,aj,rs]
 ·simp(disch:=omega)only[dr,hlA,rs]
abbrev EN(t:Nat)(L:List Eg)(e:Eg):Prop:=e∈L∧¬e.2.2=t
abbrev q2j(t:Nat)(L:List Eg)(i:Nat):List Nat:=((jf L i).filter (qcb t)).map (·.1)
theorem jcj{N TT:Nat}{L:List Eg}(h:GL N TT L)(t:Nat):∀i j,j∈q2j t L i→(∃s,EN t L (i,j,s))∧j<N:=fun i j hj=>by
 obtain⟨q,hq,rfl⟩:=List.mem_map.1 hj;obtain⟨hq,hP⟩:=List.mem_filter.1 hq;have h1:=ez.1 hq;refine⟨⟨q.2,h1,?_⟩,(h.good _ h1).b⟩;unfold qcb at hP;simpa using hP
theorem qz9{t:Nat}{L:List Eg}:∀e,EN t L e→e.2.1∈q2j t L e.1:=fun e he=>List.mem_map.2 ⟨e.2,List.mem_filter.2 ⟨ez.2 he.1,by unfold qcb;rw[decide_eq_false he.2];rfl⟩,rfl⟩
theorem jcp{N TT:Nat}{L:List Eg}(h:GL N TT L){M:List (Int×List ab)}(hM:AM M L)(t s to:Nat)(g32:Int):∀(f k:Nat) (ks:List Nat),k+f=N→BFS (EN t L) (q2j t L) N s k ks→(∀i,i<k→ks.getD i 0≠to)→
  ∃r:Unit⊕Bool,ky (fun a=>ct (t:Int) M (to:Int) g32 a.1 a.2 (fun a' =>some (.next a')) (fun e=>some (.done e)) (fun r=>some (.ret r))) (f+1) (jo ks,qL ks k)=some r∧
   ((r= .inl ()∧¬qt (EN t L) s to)∨(r= .inr true∧qt (EN t L) s to)):=by
 have hN:=h.n100;intro f
 induction f with
 |zero=>
  intro k ks hk hb hno;have hl:=hb.len;have hle:=hb.le;have hq:=x4 ks k;refine⟨.inl (),?_, .inl ⟨rfl,fun hr=> ?_⟩⟩
  ·rw[be];simp(disch:=omega)only[ct,rs];rfl
  ·obtain⟨x,hx,hxe⟩:=j8 0 (hb.all (by omega) qz9 to hr);exact hno x (by omega) hxe
 |succ f ih=>
  intro k ks hk hb hno;have hl:=hb.len;have hle:=hb.le;have hq:=x4 ks k;rw[be];by_cases hkl:k<ks.length
  ·have h1:=qxc hkl;by_cases ht:ks.getD k 0=to
   ·refine⟨.inr true,?_, .inr ⟨rfl,ht▸hb.rch _ (az 0 hkl)⟩⟩;simp(disch:=omega)only[ct,h1,ht,rs];rfl
   ·have hb' :=hb.next hkl (jcj h t)
    obtain⟨_,hpre⟩:=wi (q2j t L (ks.getD k 0)) ks;have hrow:=qdg h (ks.getD k 0);have h2:=jco t (jf L (ks.getD k 0)) (by omega) M (to:Int) g32 ks (by omega) k (by omega);have h3:=hM (ks.getD k 0);obtain⟨r,q1,q2⟩:=ih (k+1) _ (by omega) hb' fun i hi=>by
     rw[hpre i (by omega)];by_cases hik:i=k
     ·rw[hik];exact ht
     ·exact hno i (by omega)
    refine⟨r,?_,q2⟩;rw[←q1];have hl' :=hb'.len;have hle' :=hb'.le;have hq' :=x4 (fk ks (q2j t L (ks.getD k 0))) k;have h4:=qxe (ks:=fk ks (q2j t L (ks.getD k 0))) (k:=k) (by omega);generalize fk ks (q2j t L (ks.getD k 0))=ks' at h2 h4 hq' hle' hl';generalize ks.getD k 0=x at h1 h2 h3 ht;have h5:jd (t:Int) (ir ab.ty (b8 (.int .i64) (x:Int) M)) ((ir ab.ty (b8 (.int .i64) (x:Int) M)).length:Int) M (to:Int) g32 (0,jo ks,qL ks k)=some (.inl (jo ks',qL ks' k)):=(congrArg (fun A:List ab=>jd (t:Int) A (A.length:Int) M (to:Int) g32 (0,jo ks,qL ks k)) h3).trans h2;simp(disch:=omega)only[ct,h1,h5,Int.toNat_natCast,h4,rs];rfl
  ·refine⟨.inl (),?_, .inl ⟨rfl,fun hr=> ?_⟩⟩
   ·simp(disch:=omega)only[ct,rs];rfl
   ·obtain⟨x,hx,hxe⟩:=j8 0 (hb.all hkl qz9 to hr);exact hno x (by omega) hxe
theorem q2n{N TT:Nat}{L:List Eg}(h:GL N TT L){M:List (Int×List ab)}(hM:AM M L)(t to:Nat)(hs:0<N)(g32:Int):∃b,ib M (to:Int) g32 (t:Int)=some b∧(b=true↔qt (EN t L) 0 to):=by
 have hN:=h.n100;obtain⟨r,h1,h2⟩:=jcp h hM t 0 to g32 N 0 [0] (by omega) (BFS.start hs) (fun i hi=>by omega);have hL:sn (t:Int) M (to:Int) g32 (ua (.int .i64) (0:Int) true ([]:List (Int×Bool)),[0])=some r:=i7 h1 (bm (by omega));unfold ib;rcases h2 with⟨rfl,h2⟩|⟨rfl,h2⟩
 ·refine⟨false,?_,⟨(fun e=>by cases e),fun e=>absurd e h2⟩⟩;simp(disch:=omega)only[hL,rs]
 ·refine⟨true,?_,⟨fun _=>h2,fun _=>rfl⟩⟩;simp(disch:=omega)only[hL,rs]
end Go.Proofs.Ytokeielgplbdeaa
