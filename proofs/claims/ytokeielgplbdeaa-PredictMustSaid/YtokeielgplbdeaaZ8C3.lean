/-
  Predict: without is what is reached without a transition.
-/
import Derived.Test.YtokeielgplbdeaaZ8C2
set_option linter.all false
namespace Go.Proofs.Ytokeielgplbdeaa
open Go.K Go.M
theorem qrf:∀(ts l:List Nat),(fq l ts).length≤l.length+ts.length
 |[],l=>Nat.le_refl _
 |t::ts,l=>by
  have h1:=qrf ts (y6 l t);have h2:(y6 l t).length≤l.length+1:=by unfold y6;split<;>simp
  show(fq (y6 l t) ts).length≤_;rw[List.length_cons];omega
def qco(t:Nat)(q:Nat×Nat):Bool:= !decide (q.2=t)
theorem qzq(ks a b:List Nat):fq ks (a++b)=fq (fq ks a) b:=by
 unfold fq;rw[List.foldl_append]
theorem jeq(t:Nat)(A:List (Nat×Nat))(hA:A.length≤100000)(g20:List (Int×List ab))(g21 g22:Int)(ks:List Nat)(hks:ks.length≤100000)(k:Nat)(hk:k≤ks.length):
  je (t:Int) (A.map bw) ((A.map bw).length:Int) g20 g21 g22 (0,jz ks,qL ks k)=some (.inl (jz (fq ks ((A.filter (qco t)).map (·.1))),qL (fq ks ((A.filter (qco t)).map (·.1))) k)):=by
 have hlA:(A.map bw).length=A.length:=by rw[List.length_map]
 rw[hlA];have eT:fq ks ((A.filter (qco t)).map (·.1))=fq ks (((A.take A.length).filter (qco t)).map (·.1)):=by rw[List.take_length]
 rw[eT];refine jy (fun i:Nat=>((i:Int),jz (fq ks (((A.take i).filter (qco t)).map (·.1))),qL (fq ks (((A.take i).filter (qco t)).map (·.1))) k)) A.length (bm (by omega)) _ (fun i hi=> ?_) ?_ _ (by rfl)
 ·have e1:fq ks (((A.take (i+1)).filter (qco t)).map (·.1))=bif qco t (A.getD i (0,0))then y6 (fq ks (((A.take i).filter (qco t)).map (·.1))) (A.getD i (0,0)).1 else fq ks (((A.take i).filter (qco t)).map (·.1)):=by
   rw[cr A i (0,0) hi,List.filter_append,List.map_append,qzq];cases hP:qco t (A.getD i (0,0))with
   |true=>rw[List.filter_cons_of_pos hP];rfl
   |false=>rw[List.filter_cons_of_neg (by rw[hP];exact Bool.false_ne_true)];rfl
  have hpre:=(xg (((A.take i).filter (qco t)).map (·.1)) ks).1;have hlen:(fq ks (((A.take i).filter (qco t)).map (·.1))).length≤ks.length+A.length:=by
   have h1:=qrf (((A.take i).filter (qco t)).map (·.1)) ks;have h2:((A.take i).filter (qco t)).length≤(A.take i).length:=List.length_filter_le _ _;rw[List.length_map]at h1;rw[List.length_take]at h2;omega
  rw[e1];generalize fq ks (((A.take i).filter (qco t)).map (·.1))=l at hpre hlen;have hg:(A.map bw).getD i ab.z=bw (A.getD i (0,0)):=i9 _ _ _ _ _ hi;generalize A.getD i (0,0)=q at hg;have hkl:i<(A.map bw).length:=by rw[hlA];exact hi
  have h1:=qq2 q.1 l;have h2:=yg l k;unfold qco;by_cases hq:q.2=t
  ·rw[decide_eq_true hq];simp(disch:=omega)only[dx,hg,qk3,hq,Bool.not_true,al,rs]
  ·rw[decide_eq_false hq,Bool.not_false,cond_true];have hq' :¬(q.2:Int)=(t:Int):=by omega
   unfold y6;by_cases hm:q.1∈l
   ·rw[if_pos hm];rw[decide_eq_true hm]at h1;simp(disch:=omega)only[dx,hg,qjz,qk3,decide_eq_false hq',Bool.not_false,rs];rw[h1];simp(disch:=omega)only[Bool.not_true,al,rs]
   ·rw[if_neg hm];rw[decide_eq_false hm]at h1;rw[←qq3 q.1 l hm,qyu l q.1 k (by omega)];simp(disch:=omega)only[dx,hg,qjz,qk3,decide_eq_false hq',Bool.not_false,rs];rw[h1];simp(disch:=omega)only[Bool.not_false,al,rs]
 ·simp(disch:=omega)only[dx,hlA,rs]
abbrev EN(t:Nat)(L:List Eg)(e:Eg):Prop:=e∈L∧¬e.2.2=t
abbrev q39(t:Nat)(L:List Eg)(i:Nat):List Nat:=((jh L i).filter (qco t)).map (·.1)
theorem jel{N TT:Nat}{L:List Eg}(h:GL N TT L)(t:Nat):∀i j,j∈q39 t L i→(∃s,EN t L (i,j,s))∧j<N:=fun i j hj=>by
 obtain⟨q,hq,rfl⟩:=List.mem_map.1 hj;obtain⟨hq,hP⟩:=List.mem_filter.1 hq;have h1:=ff.1 hq;refine⟨⟨q.2,h1,?_⟩,(h.good _ h1).b⟩;unfold qco at hP;simpa using hP
theorem q1w{t:Nat}{L:List Eg}:∀e,EN t L e→e.2.1∈q39 t L e.1:=fun e he=>List.mem_map.2 ⟨e.2,List.mem_filter.2 ⟨ff.2 he.1,by unfold qco;rw[decide_eq_false he.2];rfl⟩,rfl⟩
theorem jer{N TT:Nat}{L:List Eg}(h:GL N TT L){M:List (Int×List ab)}(hM:AM M L)(t s to:Nat)(g32:Int):∀(f k:Nat) (ks:List Nat),k+f=N→BFS (EN t L) (q39 t L) N s k ks→(∀i,i<k→ks.getD i 0≠to)→
  ∃r:Unit⊕Bool,la (fun a=>cz (t:Int) M (to:Int) g32 a.1 a.2 (fun a' =>some (.next a')) (fun e=>some (.done e)) (fun r=>some (.ret r))) (f+1) (jz ks,qL ks k)=some r∧
   ((r= .inl ()∧¬rn (EN t L) s to)∨(r= .inr true∧rn (EN t L) s to)):=by
 have hN:=h.n100;intro f
 induction f with
 |zero=>
  intro k ks hk hb hno;have hl:=hb.len;have hle:=hb.le;have hq:=yg ks k;refine⟨.inl (),?_, .inl ⟨rfl,fun hr=> ?_⟩⟩
  ·rw[a8];simp(disch:=omega)only[cz,rs];rfl
  ·obtain⟨x,hx,hxe⟩:=ig 0 (hb.all (by omega) q1w to hr);exact hno x (by omega) hxe
 |succ f ih=>
  intro k ks hk hb hno;have hl:=hb.len;have hle:=hb.le;have hq:=yg ks k;rw[a8];by_cases hkl:k<ks.length
  ·have h1:=qyt hkl;by_cases ht:ks.getD k 0=to
   ·refine⟨.inr true,?_, .inr ⟨rfl,ht▸hb.rch _ (aw 0 hkl)⟩⟩;simp(disch:=omega)only[cz,h1,ht,rs];rfl
   ·have hb' :=hb.next hkl (jel h t)
    obtain⟨_,hpre⟩:=xg (q39 t L (ks.getD k 0)) ks;have hrow:=qdl h (ks.getD k 0);have h2:=jeq t (jh L (ks.getD k 0)) (by omega) M (to:Int) g32 ks (by omega) k (by omega);have h3:=hM (ks.getD k 0);obtain⟨r,q1,q2⟩:=ih (k+1) _ (by omega) hb' fun i hi=>by
     rw[hpre i (by omega)];by_cases hik:i=k
     ·rw[hik];exact ht
     ·exact hno i (by omega)
    refine⟨r,?_,q2⟩;rw[←q1];have hl' :=hb'.len;have hle' :=hb'.le;have hq' :=yg (fq ks (q39 t L (ks.getD k 0))) k;have h4:=qyv (ks:=fq ks (q39 t L (ks.getD k 0))) (k:=k) (by omega);generalize fq ks (q39 t L (ks.getD k 0))=ks' at h2 h4 hq' hle' hl';generalize ks.getD k 0=x at h1 h2 h3 ht;have h5:je (t:Int) (jb ab.ty (cb (.int .i64) (x:Int) M)) ((jb ab.ty (cb (.int .i64) (x:Int) M)).length:Int) M (to:Int) g32 (0,jz ks,qL ks k)=some (.inl (jz ks',qL ks' k)):=(congrArg (fun A:List ab=>je (t:Int) A (A.length:Int) M (to:Int) g32 (0,jz ks,qL ks k)) h3).trans h2;simp(disch:=omega)only[cz,h1,h5,Int.toNat_natCast,h4,rs];rfl
  ·refine⟨.inl (),?_, .inl ⟨rfl,fun hr=> ?_⟩⟩
   ·simp(disch:=omega)only[cz,rs];rfl
   ·obtain⟨x,hx,hxe⟩:=ig 0 (hb.all hkl q1w to hr);exact hno x (by omega) hxe
theorem q4d{N TT:Nat}{L:List Eg}(h:GL N TT L){M:List (Int×List ab)}(hM:AM M L)(t to:Nat)(hs:0<N)(g32:Int):∃b,ij M (to:Int) g32 (t:Int)=some b∧(b=true↔rn (EN t L) 0 to):=by
 have hN:=h.n100;obtain⟨r,h1,h2⟩:=jer h hM t 0 to g32 N 0 [0] (by omega) (BFS.start hs) (fun i hi=>by omega);have hL:s6 (t:Int) M (to:Int) g32 (ur (.int .i64) (0:Int) true ([]:List (Int×Bool)),[0])=some r:=ib h1 (bm (by omega));unfold ij;rcases h2 with⟨rfl,h2⟩|⟨rfl,h2⟩
 ·refine⟨false,?_,⟨(fun e=>by cases e),fun e=>absurd e h2⟩⟩;simp(disch:=omega)only[hL,rs]
 ·refine⟨true,?_,⟨fun _=>h2,fun _=>rfl⟩⟩;simp(disch:=omega)only[hL,rs]
end Go.Proofs.Ytokeielgplbdeaa
