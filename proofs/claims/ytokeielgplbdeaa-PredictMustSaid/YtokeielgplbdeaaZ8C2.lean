/-
  Predict: leads and without are what is reached.
-/
import Derived.Test.YtokeielgplbdeaaZ8C1
set_option linter.all false
namespace Go.Proofs.Ytokeielgplbdeaa
open Go.K Go.M
abbrev tgt(L:List Eg)(i:Nat):List Nat:=(jh L i).map (·.1)
structure GL (N TT : Nat) (L : List Eg) : Prop where
 good : ∀ e ∈ L, GdE N TT e
 len : L.length ≤ 2000
 n100 : N ≤ 100
theorem jb3{N TT:Nat}{L:List Eg}(h:GL N TT L):∀i j,j∈tgt L i→(∃t,(i,j,t)∈L)∧j<N:=fun i j hj=>by
 obtain⟨q,hq,rfl⟩:=List.mem_map.1 hj;have h1:=ff.1 hq;exact⟨⟨q.2,h1⟩,(h.good _ h1).b⟩
theorem qij{L:List Eg}:∀e,e∈L→e.2.1∈tgt L e.1:=fun e he=>List.mem_map.2 ⟨e.2,ff.2 he,rfl⟩
theorem qdl{N TT:Nat}{L:List Eg}(h:GL N TT L)(i:Nat):(jh L i).length≤2000:=by
 have:=h.len;unfold jh;rw[List.length_map];exact Nat.le_trans (List.length_filter_le _ _) this
def AM(M:List (Int×List ab))(L:List Eg):Prop:=∀i:Nat,jb ab.ty (cb (.int .i64) (i:Int) M)=(jh L i).map bw
theorem q2e(L:List Eg):AM ((grp L).map kf) L:=fun i=>q4n (qxv L) i
theorem q5n(s:Nat):ur (.int .i64) (s:Int) true ([]:List (Int×Bool))=jz [s]:=rfl
theorem je9(s:Nat):[(s:Int)]=qL [s] 0:=rfl
theorem jdo{N TT:Nat}{L:List Eg}(h:GL N TT L){M:List (Int×List ab)}(hM:AM M L)(s to:Nat)(g31 g32:Int):∀(f k:Nat) (ks:List Nat),k+f=N→BFS (fun e=>e∈L) (tgt L) N s k ks→(∀i,i<k→ks.getD i 0≠to)→
  ∃r:Unit⊕Bool,la (fun a=>dj (to:Int) M g31 g32 a.1 a.2 (fun a' =>some (.next a')) (fun e=>some (.done e)) (fun r=>some (.ret r))) (f+1) (jz ks,qL ks k)=some r∧
   ((r= .inl ()∧¬rn (fun e=>e∈L) s to)∨(r= .inr true∧rn (fun e=>e∈L) s to)):=by
 have hN:=h.n100;intro f
 induction f with
 |zero=>
  intro k ks hk hb hno;have hl:=hb.len;have hle:=hb.le;have hq:=yg ks k;refine⟨.inl (),?_, .inl ⟨rfl,fun hr=> ?_⟩⟩
  ·rw[a8];simp(disch:=omega)only[dj,rs];rfl
  ·obtain⟨x,hx,hxe⟩:=ig 0 (hb.all (by omega) qij to hr);exact hno x (by omega) hxe
 |succ f ih=>
  intro k ks hk hb hno;have hl:=hb.len;have hle:=hb.le;have hq:=yg ks k;rw[a8];by_cases hkl:k<ks.length
  ·have h1:=qyt hkl;by_cases ht:ks.getD k 0=to
   ·refine⟨.inr true,?_, .inr ⟨rfl,ht▸hb.rch _ (aw 0 hkl)⟩⟩;simp(disch:=omega)only[dj,h1,ht,rs];rfl
   ·have hb' :=hb.next hkl (jb3 h)
    obtain⟨_,hpre⟩:=xg (tgt L (ks.getD k 0)) ks;have hrow:=qdl h (ks.getD k 0);have h2:=jdn (to:Int) (jh L (ks.getD k 0)) (by omega) M g31 g32 ks (by omega) k (by omega);have h3:=hM (ks.getD k 0);obtain⟨r,q1,q2⟩:=ih (k+1) _ (by omega) hb' fun i hi=>by
     rw[hpre i (by omega)];by_cases hik:i=k
     ·rw[hik];exact ht
     ·exact hno i (by omega)
    refine⟨r,?_,q2⟩;rw[←q1];have hl' :=hb'.len;have hle' :=hb'.le;have hq' :=yg (fq ks (tgt L (ks.getD k 0))) k;have h4:=qyv (ks:=fq ks (tgt L (ks.getD k 0))) (k:=k) (by omega);generalize fq ks (tgt L (ks.getD k 0))=ks' at h2 h4 hq' hle' hl';generalize ks.getD k 0=x at h1 h2 h3 ht;have h5:kq (to:Int) (jb ab.ty (cb (.int .i64) (x:Int) M)) ((jb ab.ty (cb (.int .i64) (x:Int) M)).length:Int) M g31 g32 (0,jz ks,qL ks k)=some (.inl (jz ks',qL ks' k)):=(congrArg (fun A:List ab=>kq (to:Int) A (A.length:Int) M g31 g32 (0,jz ks,qL ks k)) h3).trans h2;simp(disch:=omega)only[dj,h1,h5,Int.toNat_natCast,h4,rs];rfl
  ·refine⟨.inl (),?_, .inl ⟨rfl,fun hr=> ?_⟩⟩
   ·simp(disch:=omega)only[dj,rs];rfl
   ·obtain⟨x,hx,hxe⟩:=ig 0 (hb.all hkl qij to hr);exact hno x (by omega) hxe
theorem jaj{N TT:Nat}{L:List Eg}(h:GL N TT L){M:List (Int×List ab)}(hM:AM M L)(s to:Nat)(hs:s<N)(g31 g32:Int):∃b,me M g31 g32 (s:Int) (to:Int)=some b∧(b=true↔rn (fun e=>e∈L) s to):=by
 have hN:=h.n100;obtain⟨r,h1,h2⟩:=jdo h hM s to g31 g32 N 0 [s] (by omega) (BFS.start hs) (fun i hi=>by omega);have hL:u6 (to:Int) M g31 g32 (jz [s],qL [s] 0)=some r:=ib h1 (bm (by omega));unfold me;rcases h2 with⟨rfl,h2⟩|⟨rfl,h2⟩
 ·refine⟨false,?_,⟨(fun e=>by cases e),fun e=>absurd e h2⟩⟩;simp(disch:=omega)only[q5n,je9,hL,rs]
 ·refine⟨true,?_,⟨fun _=>h2,fun _=>rfl⟩⟩;simp(disch:=omega)only[q5n,je9,hL,rs]
end Go.Proofs.Ytokeielgplbdeaa
