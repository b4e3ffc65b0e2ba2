/-
  Predict: open is whether greatest times have no bound.
-/
import Derived.Test.YtokeielgplbdeaaZ8C3
set_option linter.all false
namespace Go.Proofs.Ytokeielgplbdeaa
open Go.K Go.M
abbrev opT(ts:List af)(t:Nat):Bool:=(ts.getD t af.z).2.2.1
abbrev grT(ts:List af)(t:Nat):Int:=(ts.getD t af.z).2.1
theorem jd1{ts:List af}(A:List (Nat×Nat))(hA:A.length≤100000)(hT:∀q∈A,q.2<ts.length)(g20:List (Int×List ab))(g21 g22:Int)(ks:List Nat)(hks:ks.length≤100000)(k:Nat)(hk:k≤ks.length):
  (∃q∈A,opT ts q.2=true)∧fx ts (A.map bw) ((A.map bw).length:Int) g20 g21 g22 (0,jz ks,qL ks k)=some (.inr true)∨
  (∀q∈A,opT ts q.2=false)∧fx ts (A.map bw) ((A.map bw).length:Int) g20 g21 g22 (0,jz ks,qL ks k)=some (.inl (jz (fq ks (A.map (·.1))),qL (fq ks (A.map (·.1))) k)):=by
 have hlA:(A.map bw).length=A.length:=by rw[List.length_map]
 rw[hlA];have key:∀(f i:Nat),i+f=A.length→(∀j,j<i→opT ts (A.getD j (0,0)).2=false)→
   (∃q∈A,opT ts q.2=true)∧la (fun a=>bz ts (A.map bw) (A.length:Int) g20 g21 g22 a.1 a.2.1 a.2.2 (fun a' =>some (.next a')) (fun e=>some (.done e)) (fun r=>some (.ret r))) (f+1) ((i:Int),jz (fq ks ((A.take i).map (·.1))),qL (fq ks ((A.take i).map (·.1))) k)=some (.inr true)∨
   (∀q∈A,opT ts q.2=false)∧la (fun a=>bz ts (A.map bw) (A.length:Int) g20 g21 g22 a.1 a.2.1 a.2.2 (fun a' =>some (.next a')) (fun e=>some (.done e)) (fun r=>some (.ret r))) (f+1) ((i:Int),jz (fq ks ((A.take i).map (·.1))),qL (fq ks ((A.take i).map (·.1))) k)=some (.inl (jz (fq ks (A.map (·.1))),qL (fq ks (A.map (·.1))) k)):=by
  intro f
  induction f with
  |zero=>
   intro i hi hno;refine .inr ⟨fun q hq=> ?_,?_⟩
   ·obtain⟨j,hj,rfl⟩:=ig (0,0) hq;exact hno j (by omega)
   ·rw[a8,show i=A.length by omega,List.take_length];simp(disch:=omega)only[bz,rs];rfl
  |succ f ih=>
   intro i hi hno;have hil:i<A.length:=by omega
   have hg:(A.map bw).getD i ab.z=bw (A.getD i (0,0)):=i9 _ _ _ _ _ hil;have hkl:i<(A.map bw).length:=by rw[hlA];exact hil
   have hqm:=aw (0,0) hil;have hqT:=hT _ hqm;have e1:fq ks ((A.take (i+1)).map (·.1))=y6 (fq ks ((A.take i).map (·.1))) (A.getD i (0,0)).1:=by
    rw[cr A i (0,0) hil,List.map_append,qzq];rfl
   have hpre:=(xg ((A.take i).map (·.1)) ks).1;have hlen:(fq ks ((A.take i).map (·.1))).length≤ks.length+A.length:=by
    have:=qrf ((A.take i).map (·.1)) ks;rw[List.length_map,List.length_take]at this;omega
   cases ho:opT ts (A.getD i (0,0)).2 with
   |true=>
    refine .inl ⟨⟨_,hqm,ho⟩,?_⟩;rw[a8];generalize A.getD i (0,0)=q at hg hqT ho;simp(disch:=omega)only[bz,hg,qjz,qk3,ho,Int.toNat_natCast,rs];rfl
   |false=>
    have ih' :=ih (i+1) (by omega) fun j hj=>by
     by_cases hji:j=i
     ·rw[hji];exact ho
     ·exact hno j (by omega)
    have hst:la (fun a=>bz ts (A.map bw) (A.length:Int) g20 g21 g22 a.1 a.2.1 a.2.2 (fun a' =>some (.next a')) (fun e=>some (.done e)) (fun r=>some (.ret r))) (f+1+1) ((i:Int),jz (fq ks ((A.take i).map (·.1))),qL (fq ks ((A.take i).map (·.1))) k)=la (fun a=>bz ts (A.map bw) (A.length:Int) g20 g21 g22 a.1 a.2.1 a.2.2 (fun a' =>some (.next a')) (fun e=>some (.done e)) (fun r=>some (.ret r))) (f+1) (((i+1:Nat):Int),jz (fq ks ((A.take (i+1)).map (·.1))),qL (fq ks ((A.take (i+1)).map (·.1))) k):=by
     rw[e1,a8];generalize fq ks ((A.take i).map (·.1))=l at hpre hlen;generalize A.getD i (0,0)=q at hg hqT ho;have h1:=qq2 q.1 l;have h2:=yg l k;unfold y6;by_cases hm:q.1∈l
     ·rw[if_pos hm];rw[decide_eq_true hm]at h1;simp(disch:=omega)only[bz,hg,qjz,qk3,ho,Int.toNat_natCast,rs];rw[h1];simp(disch:=omega)only[Bool.not_true,al,rs];rfl
     ·rw[if_neg hm];rw[decide_eq_false hm]at h1;rw[←qq3 q.1 l hm,qyu l q.1 k (by omega)];simp(disch:=omega)only[bz,hg,qjz,qk3,ho,Int.toNat_natCast,rs];rw[h1];simp(disch:=omega)only[Bool.not_false,al,rs];rfl
    rw[hst];exact ih'
 rcases key A.length 0 (by omega) (fun j hj=>by omega)with⟨h1,h2⟩|⟨h1,h2⟩
 ·exact .inl ⟨h1,ib h2 (bm (by omega))⟩
 ·exact .inr ⟨h1,ib h2 (bm (by omega))⟩
theorem jd2{N:Nat}{ts:List af}{L:List Eg}(h:GL N ts.length L){M:List (Int×List ab)}(hM:AM M L)(g31 g32:Int):∀(f k:Nat) (ks:List Nat),k+f=N→BFS (fun e=>e∈L) (tgt L) N 0 k ks→(∀i,i<k→∀q∈jh L (ks.getD i 0),opT ts q.2=false)→
  ((∃e∈L,rn (fun e=>e∈L) 0 e.1∧opT ts e.2.2=true)∧la (fun a=>b7 ts M g31 g32 a.1 a.2 (fun a' =>some (.next a')) (fun e=>some (.done e)) (fun r=>some (.ret r))) (f+1) (jz ks,qL ks k)=some (.inr true))∨
  ∃ks',la (fun a=>b7 ts M g31 g32 a.1 a.2 (fun a' =>some (.next a')) (fun e=>some (.done e)) (fun r=>some (.ret r))) (f+1) (jz ks,qL ks k)=some (.inl (jz ks'))∧(∀i,i∈ks' ↔rn (fun e=>e∈L) 0 i)∧∀e∈L,rn (fun e=>e∈L) 0 e.1→opT ts e.2.2=false:=by
 have hN:=h.n100;intro f
 induction f with
 |zero=>
  intro k ks hk hb hno;have hl:=hb.len;have hle:=hb.le;have hq:=yg ks k;refine .inr ⟨ks,?_,fun i=>⟨hb.rch i,hb.all (by omega) qij i⟩,fun e he hr=> ?_⟩
  ·rw[a8];simp(disch:=omega)only[b7,rs];rfl
  ·obtain⟨x,hx,hxe⟩:=ig 0 (hb.all (by omega) qij _ hr);exact hno x (by omega) e.2 (by rw[hxe];exact ff.2 he)
 |succ f ih=>
  intro k ks hk hb hno;have hl:=hb.len;have hle:=hb.le;have hq:=yg ks k;by_cases hkl:k<ks.length
  ·have h1:=qyt hkl;have hb' :=hb.next hkl (jb3 h)
   obtain⟨_,hpre⟩:=xg (tgt L (ks.getD k 0)) ks;have hrow:=qdl h (ks.getD k 0);have hrch:=hb.rch _ (aw 0 hkl);have h3:=hM (ks.getD k 0);have h2:=jd1 (ts:=ts) (jh L (ks.getD k 0)) (by omega) (fun q hq=>(h.good _ (ff.1 hq)).t) M g31 g32 ks (by omega) k (by omega);have h5:=congrArg (fun A:List ab=>fx ts A (A.length:Int) M g31 g32 (0,jz ks,qL ks k)) h3;rcases h2 with⟨⟨q,hq1,hq2⟩,h2⟩|⟨h6,h2⟩
   ·refine .inl ⟨⟨_,ff.1 hq1,hrch,hq2⟩,?_⟩;generalize ks.getD k 0=x at h1 h2 h5;have h5:fx ts (jb ab.ty (cb (.int .i64) (x:Int) M)) ((jb ab.ty (cb (.int .i64) (x:Int) M)).length:Int) M g31 g32 (0,jz ks,qL ks k)=some (.inr true):=h5.trans h2;rw[a8];simp(disch:=omega)only[b7,h1,h5,rs];rfl
   ·have ih' :=ih (k+1) _ (by omega) hb' fun i hi=>by
     rw[hpre i (by omega)];by_cases hik:i=k
     ·rw[hik];exact h6
     ·exact hno i (by omega)
    have hst:la (fun a=>b7 ts M g31 g32 a.1 a.2 (fun a' =>some (.next a')) (fun e=>some (.done e)) (fun r=>some (.ret r))) (f+1+1) (jz ks,qL ks k)=la (fun a=>b7 ts M g31 g32 a.1 a.2 (fun a' =>some (.next a')) (fun e=>some (.done e)) (fun r=>some (.ret r))) (f+1) (jz (fq ks (tgt L (ks.getD k 0))),qL (fq ks (tgt L (ks.getD k 0))) (k+1)):=by
     have hl' :=hb'.len;have hle' :=hb'.le;have hq' :=yg (fq ks (tgt L (ks.getD k 0))) k;have h4:=qyv (ks:=fq ks (tgt L (ks.getD k 0))) (k:=k) (by omega);generalize fq ks (tgt L (ks.getD k 0))=ks' at h2 h4 hq' hle' hl';generalize ks.getD k 0=x at h1 h2 h5;have h5:fx ts (jb ab.ty (cb (.int .i64) (x:Int) M)) ((jb ab.ty (cb (.int .i64) (x:Int) M)).length:Int) M g31 g32 (0,jz ks,qL ks k)=some (.inl (jz ks',qL ks' k)):=h5.trans h2;rw[a8];simp(disch:=omega)only[b7,h1,h5,Int.toNat_natCast,h4,rs];rfl
    rw[hst];exact ih'
  ·refine .inr ⟨ks,?_,fun i=>⟨hb.rch i,hb.all hkl qij i⟩,fun e he hr=> ?_⟩
   ·rw[a8];simp(disch:=omega)only[b7,rs];rfl
   ·obtain⟨x,hx,hxe⟩:=ig 0 (hb.all hkl qij _ hr);exact hno x (by omega) e.2 (by rw[hxe];exact ff.2 he)
abbrev RL(L:List Eg):Nat→Nat→Prop:=rn (fun e=>e∈L)
theorem jd3{N:Nat}{ts:List af}{L:List Eg}(h:GL N ts.length L){M:List (Int×List ab)}(hM:AM M L)(g31 g32:Int)(v51:List (Int×Bool))(x:Nat)(A:List (Nat×Nat))(hA:A.length≤100000)(hT:∀q∈A,q.2<ts.length∧q.1<N):
  (∃q∈A,0<grT ts q.2∧RL L q.1 x)∧fy ts (x:Int) v51 (A.map bw) ((A.map bw).length:Int) M g31 g32 0=some (.inr true)∨
  (∀q∈A,¬(0<grT ts q.2∧RL L q.1 x))∧fy ts (x:Int) v51 (A.map bw) ((A.map bw).length:Int) M g31 g32 0=some (.inl ()):=by
 have hlA:(A.map bw).length=A.length:=by rw[List.length_map]
 rw[hlA];have key:∀(f i:Nat),i+f=A.length→(∀j,j<i→¬(0<grT ts (A.getD j (0,0)).2∧RL L (A.getD j (0,0)).1 x))→
   (∃q∈A,0<grT ts q.2∧RL L q.1 x)∧la (fun a=>ba ts (x:Int) v51 (A.map bw) (A.length:Int) M g31 g32 a (fun a' =>some (.next a')) (fun e=>some (.done e)) (fun r=>some (.ret r))) (f+1) (i:Int)=some (.inr true)∨
   (∀q∈A,¬(0<grT ts q.2∧RL L q.1 x))∧la (fun a=>ba ts (x:Int) v51 (A.map bw) (A.length:Int) M g31 g32 a (fun a' =>some (.next a')) (fun e=>some (.done e)) (fun r=>some (.ret r))) (f+1) (i:Int)=some (.inl ()):=by
  intro f
  induction f with
  |zero=>
   intro i hi hno;refine .inr ⟨fun q hq=> ?_,?_⟩
   ·obtain⟨j,hj,rfl⟩:=ig (0,0) hq;exact hno j (by omega)
   ·rw[a8,show i=A.length by omega];simp(disch:=omega)only[ba,rs];rfl
  |succ f ih=>
   intro i hi hno;have hil:i<A.length:=by omega
   have hg:(A.map bw).getD i ab.z=bw (A.getD i (0,0)):=i9 _ _ _ _ _ hil;have hkl:i<(A.map bw).length:=by rw[hlA];exact hil
   have hqm:=aw (0,0) hil;have hqT:=hT _ hqm;have ih' :=ih (i+1) (by omega);have hno' :¬(0<grT ts (A.getD i (0,0)).2∧RL L (A.getD i (0,0)).1 x)→∀j,j<i+1→¬(0<grT ts (A.getD j (0,0)).2∧RL L (A.getD j (0,0)).1 x):=fun h0 j hj=>by
    by_cases hji:j=i
    ·rw[hji];exact h0
    ·exact hno j (by omega)
   obtain⟨b,hb1,hb2⟩:=jaj h hM (A.getD i (0,0)).1 x hqT.2 g31 g32;rw[a8];generalize A.getD i (0,0)=q at hg hqT hb1 hb2 hqm hno';by_cases hgr:0<grT ts q.2
   ·cases b with
    |true=>
     refine .inl ⟨⟨_,hqm,hgr,hb2.1 rfl⟩,?_⟩;simp(disch:=omega)only[ba,hg,qjz,qk3,Int.toNat_natCast,hb1,rs];rfl
    |false=>
     have hst:∀y,la (fun a=>ba ts (x:Int) v51 (A.map bw) (A.length:Int) M g31 g32 a (fun a' =>some (.next a')) (fun e=>some (.done e)) (fun r=>some (.ret r))) (f+1) ((i+1:Nat):Int)=y→bnd (ba ts (x:Int) v51 (A.map bw) (A.length:Int) M g31 g32 (i:Int) (fun a' =>some (.next a')) (fun e=>some (.done e)) (fun r=>some (.ret r)):Option (LR Int Unit Bool)) (fun z=>lr z (la (fun a=>ba ts (x:Int) v51 (A.map bw) (A.length:Int) M g31 g32 a (fun a' =>some (.next a')) (fun e=>some (.done e)) (fun r=>some (.ret r))) (f+1)))=y:=fun y hy=>by
      rw[←hy];simp(disch:=omega)only[ba,hg,qjz,qk3,Int.toNat_natCast,hb1,al,rs];rfl
     rcases ih' (hno' fun h0=>by have:=hb2.2 h0.2;cases this)with⟨a1,a2⟩|⟨a1,a2⟩
     ·exact .inl ⟨a1,hst _ a2⟩
     ·exact .inr ⟨a1,hst _ a2⟩
   ·have hgrf:decide ((0:Int)<(ts.getD q.2 af.z).2.1)=false:=decide_eq_false hgr;have hst:∀y,la (fun a=>ba ts (x:Int) v51 (A.map bw) (A.length:Int) M g31 g32 a (fun a' =>some (.next a')) (fun e=>some (.done e)) (fun r=>some (.ret r))) (f+1) ((i+1:Nat):Int)=y→bnd (ba ts (x:Int) v51 (A.map bw) (A.length:Int) M g31 g32 (i:Int) (fun a' =>some (.next a')) (fun e=>some (.done e)) (fun r=>some (.ret r)):Option (LR Int Unit Bool)) (fun z=>lr z (la (fun a=>ba ts (x:Int) v51 (A.map bw) (A.length:Int) M g31 g32 a (fun a' =>some (.next a')) (fun e=>some (.done e)) (fun r=>some (.ret r))) (f+1)))=y:=fun y hy=>by
     rw[←hy];simp(disch:=omega)only[ba,hg,qjz,qk3,Int.toNat_natCast,hgrf,al,rs];rfl
    rcases ih' (hno' fun h0=>hgr h0.1)with⟨a1,a2⟩|⟨a1,a2⟩
    ·exact .inl ⟨a1,hst _ a2⟩
    ·exact .inr ⟨a1,hst _ a2⟩
 rcases key A.length 0 (by omega) (fun j hj=>by omega)with⟨h1,h2⟩|⟨h1,h2⟩
 ·exact .inl ⟨h1,ib h2 (bm (by omega))⟩
 ·exact .inr ⟨h1,ib h2 (bm (by omega))⟩
theorem qyl{N:Nat}{ts:List af}{L:List Eg}(h:GL N ts.length L){M:List (Int×List ab)}(hM:AM M L)(g31 g32:Int)(v51:List (Int×Bool)):∀l:List Nat,
  (∃e∈L,e.1∈l∧0<grT ts e.2.2∧RL L e.2.1 e.1)∧lh ts v51 M g31 g32 (jz l) ()=some (.inr true)∨
  (∀e∈L,e.1∈l→¬(0<grT ts e.2.2∧RL L e.2.1 e.1))∧lh ts v51 M g31 g32 (jz l) ()=some (.inl ())
 |[]=> .inr ⟨fun e _ he=>(by cases he),rfl⟩
 |x::l=>by
  have h2:=jd3 h hM g31 g32 v51 x (jh L x) (by have:=qdl h x;omega) fun q hq=>⟨(h.good _ (ff.1 hq)).t,(h.good _ (ff.1 hq)).b⟩
  have h5:=congrArg (fun A:List ab=>fy ts (x:Int) v51 A (A.length:Int) M g31 g32 0) (hM x);have ih:=qyl h hM g31 g32 v51 l;unfold lh at ih⊢;unfold jz at ih⊢;rw[List.map_cons];simp only[yl];rcases h2 with⟨⟨q,hq1,hq2⟩,h2⟩|⟨h6,h2⟩
  ·refine .inl ⟨⟨_,ff.1 hq1,List.mem_cons_self,hq2⟩,?_⟩;have h5:fy ts (x:Int) v51 (jb ab.ty (cb (.int .i64) (x:Int) M)) ((jb ab.ty (cb (.int .i64) (x:Int) M)).length:Int) M g31 g32 0=some (.inr true):=h5.trans h2;simp(disch:=omega)only[ii,h5,rs]
  ·have h5:fy ts (x:Int) v51 (jb ab.ty (cb (.int .i64) (x:Int) M)) ((jb ab.ty (cb (.int .i64) (x:Int) M)).length:Int) M g31 g32 0=some (.inl ()):=h5.trans h2;rcases ih with⟨⟨e,e1,e2,e3⟩,ih⟩|⟨e1,ih⟩
   ·refine .inl ⟨⟨e,e1,List.mem_cons_of_mem _ e2,e3⟩,?_⟩;rw[←ih];simp(disch:=omega)only[ii,h5,rs]
   ·refine .inr ⟨fun e he hm=> ?_,?_⟩
    ·rcases List.mem_cons.1 hm with hm|hm
     ·have:=h6 e.2 (ff.2 (by rw[←hm];exact he));rw[←hm]at this;exact this
     ·exact e1 e he hm
    ·rw[←ih];simp(disch:=omega)only[ii,h5,rs]
def Op(ts:List af)(L:List Eg):Prop:=∃e∈L,RL L 0 e.1∧(opT ts e.2.2=true∨0<grT ts e.2.2∧RL L e.2.1 e.1)
theorem q1b{ks:List Nat}{l:List (Int×Bool)}(h:l.Perm (jz ks)):∃l',l=jz l' ∧l'.Perm ks:=by
 refine⟨l.map fun x=>x.1.toNat,?_,?_⟩
 ·unfold jz;rw[List.map_map]
  conv=>lhs;rw[←List.map_id l]
  refine List.map_congr_left fun x hx=> ?_
  obtain⟨k,_,rfl⟩:=List.mem_map.1 (h.mem_iff.1 hx);simp
 ·have:=h.map fun x:Int×Bool=>x.1.toNat
  unfold jz at this;rw[List.map_map]at this;have e:(fun x:Int×Bool=>x.1.toNat)∘(fun k:Nat=>((k:Int),true))=id:=by funext k;simp
  rw[e,List.map_id]at this;exact this
theorem jd4{N:Nat}{ts:List af}{L:List Eg}(h:GL N ts.length L){M:List (Int×List ab)}(hM:AM M L)(hs:0<N)(g31 g32:Int):∃b,cx M g31 g32 ts=some b∧(b=true↔Op ts L):=by
 have hN:=h.n100;unfold cx;rcases jd2 (ts:=ts) h hM g31 g32 N 0 [0] (by omega) (BFS.start hs) (fun i hi=>by omega)with⟨⟨e,e1,e2,e3⟩,h1⟩|⟨ks,h1,h2,h3⟩
 ·have hL:pm ts M g31 g32 (ur (.int .i64) (0:Int) true ([]:List (Int×Bool)),[0])=some (.inr true):=ib h1 (bm (by omega));refine⟨true,?_,⟨fun _=>⟨e,e1,e2, .inl e3⟩,fun _=>rfl⟩⟩;simp(disch:=omega)only[hL,rs]
 ·have hL:pm ts M g31 g32 (ur (.int .i64) (0:Int) true ([]:List (Int×Bool)),[0])=some (.inl (jz ks)):=ib h1 (bm (by omega));by_cases ho:Op ts L
  ·refine⟨true,?_,⟨fun _=>ho,fun _=>rfl⟩⟩;simp(disch:=omega)only[hL,rs];refine qy4 fun l hl=> ?_
   obtain⟨l',rfl,hp⟩:=q1b hl;rcases qyl h hM g31 g32 (jz ks) l' with⟨_,a2⟩|⟨a1,a2⟩
   ·exact⟨_,a2,rfl⟩
   ·exfalso;obtain⟨e,e1,e2,e3⟩:=ho;rcases e3 with e3|e3
    ·have:=h3 e e1 e2;rw[e3]at this;cases this
    ·exact a1 e e1 (hp.mem_iff.2 ((h2 _).2 e2)) e3
  ·refine⟨false,?_,⟨(fun e=>by cases e),fun e=>absurd e ho⟩⟩;simp(disch:=omega)only[hL,rs];refine qy4 fun l hl=> ?_
   obtain⟨l',rfl,hp⟩:=q1b hl;rcases qyl h hM g31 g32 (jz ks) l' with⟨⟨e,e1,e2,e3⟩,a2⟩|⟨a1,a2⟩
   ·exact absurd ⟨e,e1,(h2 _).1 (hp.mem_iff.1 e2), .inr e3⟩ ho
   ·exact⟨_,a2,rfl⟩
end Go.Proofs.Ytokeielgplbdeaa
