/-
  Predict: without is what is reached without a transition.
-/
import Derived.Test.YtokeielgplbdeaaZ5C2
set_option linter.all false
namespace Go.Proofs.Ytokeielgplbdeaa
open Go.K Go.M
theorem qop:∀(ts l:List Nat),(fq l ts).length≤l.length+ts.length
 |[],l=>Nat.le_refl _
 |t::ts,l=>by
  have h1:=qop ts (x4 l t);have h2:(x4 l t).length≤l.length+1:=by unfold x4;split<;>simp
  show(fq (x4 l t) ts).length≤_;rw[List.length_cons];omega
def qbj(t:Nat)(q:Nat×Nat):Bool:= !decide (q.2=t)
theorem qwd(ks a b:List Nat):fq ks (a++b)=fq (fq ks a) b:=by
 unfold fq;rw[List.foldl_append]
theorem jaq(t:Nat)(A:List (Nat×Nat))(hA:A.length≤100000)(g20:List (Int×List ab))(g21 g22:Int)(ks:List Nat)(hks:ks.length≤100000)(k:Nat)(hk:k≤ks.length):
  i7 (t:Int) (A.map b8) ((A.map b8).length:Int) g20 g21 g22 (0,jp ks,qL ks k)=some (.inl (jp (fq ks ((A.filter (qbj t)).map (·.1))),qL (fq ks ((A.filter (qbj t)).map (·.1))) k)):=by
 have hlA:(A.map b8).length=A.length:=by rw[List.length_map]
 rw[hlA];have eT:fq ks ((A.filter (qbj t)).map (·.1))=fq ks (((A.take A.length).filter (qbj t)).map (·.1)):=by rw[List.take_length]
 rw[eT];refine jo (fun i:Nat=>((i:Int),jp (fq ks (((A.take i).filter (qbj t)).map (·.1))),qL (fq ks (((A.take i).filter (qbj t)).map (·.1))) k)) A.length (bz (by omega)) _ (fun i hi=> ?_) ?_ _ (by rfl)
 ·have e1:fq ks (((A.take (i+1)).filter (qbj t)).map (·.1))=bif qbj t (A.getD i (0,0))then x4 (fq ks (((A.take i).filter (qbj t)).map (·.1))) (A.getD i (0,0)).1 else fq ks (((A.take i).filter (qbj t)).map (·.1)):=by
   rw[cx A i (0,0) hi,List.filter_append,List.map_append,qwd];cases hP:qbj t (A.getD i (0,0))with
   |true=>rw[List.filter_cons_of_pos hP];rfl
   |false=>rw[List.filter_cons_of_neg (by rw[hP];exact Bool.false_ne_true)];rfl
  have hpre:=(vq (((A.take i).filter (qbj t)).map (·.1)) ks).1;have hlen:(fq ks (((A.take i).filter (qbj t)).map (·.1))).length≤ks.length+A.length:=by
   have h1:=qop (((A.take i).filter (qbj t)).map (·.1)) ks;have h2:((A.take i).filter (qbj t)).length≤(A.take i).length:=List.length_filter_le _ _;rw[List.length_map]at h1;rw[List.length_take]at h2;omega
  rw[e1];generalize fq ks (((A.take i).filter (qbj t)).map (·.1))=l at hpre hlen;have hg:(A.map b8).getD i ab.z=b8 (A.getD i (0,0)):=i4 _ _ _ _ _ hi;generalize A.getD i (0,0)=q at hg;have hkl:i<(A.map b8).length:=by rw[hlA];exact hi
  have h1:=qoe q.1 l;have h2:=xg l k;unfold qbj;by_cases hq:q.2=t
  ·rw[decide_eq_true hq];simp(disch:=omega)only[dy,hg,qjd,hq,Bool.not_true,aq,rs]
  ·rw[decide_eq_false hq,Bool.not_false,cond_true];have hq' :¬(q.2:Int)=(t:Int):=by omega
   unfold x4;by_cases hm:q.1∈l
   ·rw[if_pos hm];rw[decide_eq_true hm]at h1;simp(disch:=omega)only[dy,hg,qia,qjd,decide_eq_false hq',Bool.not_false,rs];rw[h1];simp(disch:=omega)only[Bool.not_true,aq,rs]
   ·rw[if_neg hm];rw[decide_eq_false hm]at h1;rw[←qof q.1 l hm,qvi l q.1 k (by omega)];simp(disch:=omega)only[dy,hg,qia,qjd,decide_eq_false hq',Bool.not_false,rs];rw[h1];simp(disch:=omega)only[Bool.not_false,aq,rs]
 ·simp(disch:=omega)only[dy,hlA,rs]
abbrev EN(t:Nat)(L:List Eg)(e:Eg):Prop:=e∈L∧¬e.2.2=t
abbrev q0l(t:Nat)(L:List Eg)(i:Nat):List Nat:=((jb L i).filter (qbj t)).map (·.1)
theorem jal{N TT:Nat}{L:List Eg}(h:GL N TT L)(t:Nat):∀i j,j∈q0l t L i→(∃s,EN t L (i,j,s))∧j<N:=fun i j hj=>by
 obtain⟨q,hq,rfl⟩:=List.mem_map.1 hj;obtain⟨hq,hP⟩:=List.mem_filter.1 hq;have h1:=fg.1 hq;refine⟨⟨q.2,h1,?_⟩,(h.good _ h1).b⟩;unfold qbj at hP;simpa using hP
theorem qyc{t:Nat}{L:List Eg}:∀e,EN t L e→e.2.1∈q0l t L e.1:=fun e he=>List.mem_map.2 ⟨e.2,List.mem_filter.2 ⟨fg.2 he.1,by unfold qbj;rw[decide_eq_false he.2];rfl⟩,rfl⟩
theorem jar{N TT:Nat}{L:List Eg}(h:GL N TT L){M:List (Int×List ab)}(hM:AM M L)(t s to:Nat)(g32:Int):∀(f k:Nat) (ks:List Nat),k+f=N→BFS (EN t L) (q0l t L) N s k ks→(∀i,i<k→ks.getD i 0≠to)→
  ∃r:Unit⊕Bool,lb (fun a=>c8 (t:Int) M (to:Int) g32 a.1 a.2 (fun a' =>some (.next a')) (fun e=>some (.done e)) (fun r=>some (.ret r))) (f+1) (jp ks,qL ks k)=some r∧
   ((r= .inl ()∧¬qp (EN t L) s to)∨(r= .inr true∧qp (EN t L) s to)):=by
 have hN:=h.n100;intro f
 induction f with
 |zero=>
  intro k ks hk hb hno;have hl:=hb.len;have hle:=hb.le;have hq:=xg ks k;refine⟨.inl (),?_, .inl ⟨rfl,fun hr=> ?_⟩⟩
  ·rw[bh];simp(disch:=omega)only[c8,rs];rfl
  ·obtain⟨x,hx,hxe⟩:=kd 0 (hb.all (by omega) qyc to hr);exact hno x (by omega) hxe
 |succ f ih=>
  intro k ks hk hb hno;have hl:=hb.len;have hle:=hb.le;have hq:=xg ks k;rw[bh];by_cases hkl:k<ks.length
  ·have h1:=qvh hkl;by_cases ht:ks.getD k 0=to
   ·refine⟨.inr true,?_, .inr ⟨rfl,ht▸hb.rch _ (ba 0 hkl)⟩⟩;simp(disch:=omega)only[c8,h1,ht,rs];rfl
   ·have hb' :=hb.next hkl (jal h t)
    obtain⟨_,hpre⟩:=vq (q0l t L (ks.getD k 0)) ks;have hrow:=qcf h (ks.getD k 0);have h2:=jaq t (jb L (ks.getD k 0)) (by omega) M (to:Int) g32 ks (by omega) k (by omega);have h3:=hM (ks.getD k 0);obtain⟨r,q1,q2⟩:=ih (k+1) _ (by omega) hb' fun i hi=>by
     rw[hpre i (by omega)];by_cases hik:i=k
     ·rw[hik];exact ht
     ·exact hno i (by omega)
    refine⟨r,?_,q2⟩;rw[←q1];have hl' :=hb'.len;have hle' :=hb'.le;have hq' :=xg (fq ks (q0l t L (ks.getD k 0))) k;have h4:=qvj (ks:=fq ks (q0l t L (ks.getD k 0))) (k:=k) (by omega);generalize fq ks (q0l t L (ks.getD k 0))=ks' at h2 h4 hq' hle' hl';generalize ks.getD k 0=x at h1 h2 h3 ht;have h5:i7 (t:Int) (i5 ab.ty (ci (.int .i64) (x:Int) M)) ((i5 ab.ty (ci (.int .i64) (x:Int) M)).length:Int) M (to:Int) g32 (0,jp ks,qL ks k)=some (.inl (jp ks',qL ks' k)):=(congrArg (fun A:List ab=>i7 (t:Int) A (A.length:Int) M (to:Int) g32 (0,jp ks,qL ks k)) h3).trans h2;simp(disch:=omega)only[c8,h1,h5,Int.toNat_natCast,h4,rs];rfl
  ·refine⟨.inl (),?_, .inl ⟨rfl,fun hr=> ?_⟩⟩
   ·simp(disch:=omega)only[c8,rs];rfl
   ·obtain⟨x,hx,hxe⟩:=kd 0 (hb.all hkl qyc to hr);exact hno x (by omega) hxe
theorem q0p{N TT:Nat}{L:List Eg}(h:GL N TT L){M:List (Int×List ab)}(hM:AM M L)(t to:Nat)(hs:0<N)(g32:Int):∃b,ie M (to:Int) g32 (t:Int)=some b∧(b=true↔qp (EN t L) 0 to):=by
 have hN:=h.n100;obtain⟨r,h1,h2⟩:=jar h hM t 0 to g32 N 0 [0] (by omega) (BFS.start hs) (fun i hi=>by omega);have hL:rk (t:Int) M (to:Int) g32 (tk (.int .i64) (0:Int) true ([]:List (Int×Bool)),[0])=some r:=jm h1 (bz (by omega));unfold ie;rcases h2 with⟨rfl,h2⟩|⟨rfl,h2⟩
 ·refine⟨false,?_,⟨(fun e=>by cases e),fun e=>absurd e h2⟩⟩;simp(disch:=omega)only[hL,rs]
 ·refine⟨true,?_,⟨fun _=>h2,fun _=>rfl⟩⟩;simp(disch:=omega)only[hL,rs]
end Go.Proofs.Ytokeielgplbdeaa
