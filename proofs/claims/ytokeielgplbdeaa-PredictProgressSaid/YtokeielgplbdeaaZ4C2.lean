/-
  Predict: leads and without are what is reached.
-/
import Derived.Test.YtokeielgplbdeaaZ4C1
set_option linter.all false
namespace Go.Proofs.Ytokeielgplbdeaa
open Go.K Go.M
abbrev tgt(L:List Eg)(i:Nat):List Nat:=(jg L i).map (·.1)
structure GL (N TT : Nat) (L : List Eg) : Prop where
 good : ∀ e ∈ L, GdE N TT e
 len : L.length ≤ 2000
 n100 : N ≤ 100
theorem q82{N TT:Nat}{L:List Eg}(h:GL N TT L):∀i j,j∈tgt L i→(∃t,(i,j,t)∈L)∧j<N:=fun i j hj=>by
 obtain⟨q,hq,rfl⟩:=List.mem_map.1 hj;have h1:=fe.1 hq;exact⟨⟨q.2,h1⟩,(h.good _ h1).b⟩
theorem qh3{L:List Eg}:∀e,e∈L→e.2.1∈tgt L e.1:=fun e he=>List.mem_map.2 ⟨e.2,fe.2 he,rfl⟩
theorem qdb{N TT:Nat}{L:List Eg}(h:GL N TT L)(i:Nat):(jg L i).length≤2000:=by
 have:=h.len;unfold jg;rw[List.length_map];exact Nat.le_trans (List.length_filter_le _ _) this
def AM(M:List (Int×List ab))(L:List Eg):Prop:=∀i:Nat,ja ab.ty (cf (.int .i64) (i:Int) M)=(jg L i).map bw
theorem qzx(L:List Eg):AM ((grp L).map j6) L:=fun i=>q13 (qvl L) i
theorem q23(s:Nat):t4 (.int .i64) (s:Int) true ([]:List (Int×Bool))=js [s]:=rfl
theorem jce(s:Nat):[(s:Int)]=qL [s] 0:=rfl
theorem jaq{N TT:Nat}{L:List Eg}(h:GL N TT L){M:List (Int×List ab)}(hM:AM M L)(s to:Nat)(g31 g32:Int):∀(f k:Nat) (ks:List Nat),k+f=N→BFS (fun e=>e∈L) (tgt L) N s k ks→(∀i,i<k→ks.getD i 0≠to)→
  ∃r:Unit⊕Bool,kz (fun a=>di (to:Int) M g31 g32 a.1 a.2 (fun a' =>some (.next a')) (fun e=>some (.done e)) (fun r=>some (.ret r))) (f+1) (js ks,qL ks k)=some r∧
   ((r= .inl ()∧¬qt (fun e=>e∈L) s to)∨(r= .inr true∧qt (fun e=>e∈L) s to)):=by
 have hN:=h.n100;intro f
 induction f with
 |zero=>
  intro k ks hk hb hno;have hl:=hb.len;have hle:=hb.le;have hq:=x3 ks k;refine⟨.inl (),?_, .inl ⟨rfl,fun hr=> ?_⟩⟩
  ·rw[ba];simp(disch:=omega)only[di,rs];rfl
  ·obtain⟨x,hx,hxe⟩:=i5 0 (hb.all (by omega) qh3 to hr);exact hno x (by omega) hxe
 |succ f ih=>
  intro k ks hk hb hno;have hl:=hb.len;have hle:=hb.le;have hq:=x3 ks k;rw[ba];by_cases hkl:k<ks.length
  ·have h1:=qwj hkl;by_cases ht:ks.getD k 0=to
   ·refine⟨.inr true,?_, .inr ⟨rfl,ht▸hb.rch _ (aw 0 hkl)⟩⟩;simp(disch:=omega)only[di,h1,ht,rs];rfl
   ·have hb' :=hb.next hkl (q82 h)
    obtain⟨_,hpre⟩:=wj (tgt L (ks.getD k 0)) ks;have hrow:=qdb h (ks.getD k 0);have h2:=jap (to:Int) (jg L (ks.getD k 0)) (by omega) M g31 g32 ks (by omega) k (by omega);have h3:=hM (ks.getD k 0);obtain⟨r,q1,q2⟩:=ih (k+1) _ (by omega) hb' fun i hi=>by
     rw[hpre i (by omega)];by_cases hik:i=k
     ·rw[hik];exact ht
     ·exact hno i (by omega)
    refine⟨r,?_,q2⟩;rw[←q1];have hl' :=hb'.len;have hle' :=hb'.le;have hq' :=x3 (fo ks (tgt L (ks.getD k 0))) k;have h4:=qwl (ks:=fo ks (tgt L (ks.getD k 0))) (k:=k) (by omega);generalize fo ks (tgt L (ks.getD k 0))=ks' at h2 h4 hq' hle' hl';generalize ks.getD k 0=x at h1 h2 h3 ht;have h5:kd (to:Int) (ja ab.ty (cf (.int .i64) (x:Int) M)) ((ja ab.ty (cf (.int .i64) (x:Int) M)).length:Int) M g31 g32 (0,js ks,qL ks k)=some (.inl (js ks',qL ks' k)):=(congrArg (fun A:List ab=>kd (to:Int) A (A.length:Int) M g31 g32 (0,js ks,qL ks k)) h3).trans h2;simp(disch:=omega)only[di,h1,h5,Int.toNat_natCast,h4,rs];rfl
  ·refine⟨.inl (),?_, .inl ⟨rfl,fun hr=> ?_⟩⟩
   ·simp(disch:=omega)only[di,rs];rfl
   ·obtain⟨x,hx,hxe⟩:=i5 0 (hb.all hkl qh3 to hr);exact hno x (by omega) hxe
theorem q7i{N TT:Nat}{L:List Eg}(h:GL N TT L){M:List (Int×List ab)}(hM:AM M L)(s to:Nat)(hs:s<N)(g31 g32:Int):∃b,l0 M g31 g32 (s:Int) (to:Int)=some b∧(b=true↔qt (fun e=>e∈L) s to):=by
 have hN:=h.n100;obtain⟨r,h1,h2⟩:=jaq h hM s to g31 g32 N 0 [s] (by omega) (BFS.start hs) (fun i hi=>by omega);have hL:ui (to:Int) M g31 g32 (js [s],qL [s] 0)=some r:=iy h1 (bh (by omega));unfold l0;rcases h2 with⟨rfl,h2⟩|⟨rfl,h2⟩
 ·refine⟨false,?_,⟨(fun e=>by cases e),fun e=>absurd e h2⟩⟩;simp(disch:=omega)only[q23,jce,hL,rs]
 ·refine⟨true,?_,⟨fun _=>h2,fun _=>rfl⟩⟩;simp(disch:=omega)only[q23,jce,hL,rs]
end Go.Proofs.Ytokeielgplbdeaa
