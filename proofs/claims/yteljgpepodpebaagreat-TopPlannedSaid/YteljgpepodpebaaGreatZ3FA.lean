/-
  The tableau: costs are reduced; artificial variables.
-/
import Derived.Test.YteljgpepodpebaaGreatZ3F9
set_option linter.all false
namespace Go.Proofs.YteljgpepodpebaaGreat
open Go.K Go.M
structure RI (m e : Nat) (R : List (List ab)) (bs : List Int) : Prop where
 rl : R.length = m
 rw : ∀ l, l < m → (ci R l).length = e + 1
 rn : ∀ l j, l < m → j < e + 1 → NF (gz (ci R l) j)
 bl : bs.length = m
 bn : ∀ l, l < m → 0 ≤ gb bs l ∧ gb bs l < e
 one : ∀ i, i < m → fv (gz (ci R i) (gb bs i).toNat) = 1
 zero : ∀ i l, i < m → l < m → l ≠ i → fv (gz (ci R l) (gb bs i).toNat) = 0
theorem TI.ri{m e:Nat}{c:List ab}{R:List (List ab)}{bs:List Int}(h:TI m e c R bs)(hb:Bas m (e+1) (tb c R bs)):RI m e R bs:=⟨h.rl,h.rw,h.rn,h.bl,h.bn,hb.one,hb.zero⟩
theorem jn6{m n r:Nat}{A:Nat→Nat→Rat}{c:Nat→Rat}{B:Nat→Nat}(a:Rat)(hr:r<m):Eqv m n ⟨A,c,B⟩ ⟨A,fun j=>c j-a*A r j,B⟩:=by
 refine⟨fun d=>Iff.rfl,fun d hd=> ?_⟩;have h:=hd r hr;have h:d4 n (fun j=>A r j*d j)=0:=h;show d4 n (fun j=>c j*d j)=d4 n (fun j=>(c j-a*A r j)*d j);rw[q5r,h]
 grind
structure PG (m e : Nat) (R : List (List ab)) (bs : List Int) (c0 c : List ab) (n : Nat) : Prop where
 cl : c.length = e + 1
 cn : ∀ j, j < e + 1 → NF (gz c j)
 z : ∀ l, l < n → fv (gz c (gb bs l).toNat) = 0
 eqv : Eqv m (e + 1) (tb c0 R bs) (tb c R bs)
def qxr{S E R:Type}(Inv:S→Prop)(μ:S→Nat)(post:E⊕R→Prop)(k:Nat):LR S E R→Prop
 | .next s=>Inv s∧μ s<k
 | .done e=>post (.inl e)
 | .ret r=>post (.inr r)
theorem fy{S E R:Type}{step:S→Option (LR S E R)}(Inv:S→Prop)(μ:S→Nat)(post:E⊕R→Prop)(s:S)(hs:Inv s)(hμ:μ s<many)(h:∀s,Inv s→∃x,step s=some x∧qxr Inv μ post (μ s) x):∃o,bm step s=some o∧post o:=
 je6 Inv μ post s hs hμ fun s hs=>by
  obtain⟨x,hx,hp⟩:=h s hs;refine⟨x,hx,?_⟩;cases x<;>exact hp
abbrev PS:=Int×List ab×Int×Int×List Int×List (List ab)×List Int
abbrev PE:=List ab×Int×Int×List Int×List (List ab)×List Int
def jy4(m e:Nat)(R:List (List ab))(bs:List Int)(c0:List ab)(t3:Int)(s:PS):Prop:=∃(i:Nat) (c:List ab) (x:Int),s=((i:Int),c,t3,x,[],R,bs)∧i≤m∧(x=0→PG m e R bs c0 c i)
def jsd(m e:Nat)(R:List (List ab))(bs:List Int)(c0:List ab)(t3:Int)(o:PE⊕PE):Prop:=∃c x,(o= .inl (c,t3,x,[],R,bs)∨o= .inr (c,t3,x,[],R,bs))∧(x=0→PG m e R bs c0 c m)
theorem jae{m e:Nat}{c0:List ab}{R:List (List ab)}{bs:List Int}(t1:List ab)(t3:Int)(h:RI m e R bs)(he:e≤1000)(hm:m≤1000)(hc:c0.length=e+1)(hcn:∀j,j<e+1→NF (gz c0 j)):
  ∃c x,fm t1 t3 0 c0 R bs=some (c,t3,x,[],R,bs)∧(x=0→TI m e c R bs∧Bas m (e+1) (tb c R bs)∧Eqv m (e+1) (tb c0 R bs) (tb c R bs)):=by
 obtain⟨rl,rw',rn,bl,bn,one,zero⟩:=h;obtain⟨o,ho,hp⟩:=fy (step:=fun s:PS=>jg (R:=LR PS PE PE) (bs.length:Int) s.1 s.2.1 s.2.2.1 s.2.2.2.1 s.2.2.2.2.1 s.2.2.2.2.2.1 s.2.2.2.2.2.2 (fun a' =>some (.next a')) (fun e=>some (.done e)) (fun r=>some (.ret r)))
  (jy4 m e R bs c0 t3) (fun s=>m-s.1.toNat) (jsd m e R bs c0 t3)
  (0,c0,t3,0,[],R,bs) ⟨0,c0,0,rfl,by omega,fun _=>⟨hc,hcn,fun l hl=>by omega,Eqv.refl _⟩⟩ (by show m-(0:Int).toNat<many;have:=cr (n:=m) (by omega);omega) (by
   rintro s ⟨i,c,x,rfl,hi,hg⟩;unfold jg;dsimp only;by_cases hlt:i<m
   ·rw[bi (by omega),ao (by omega) (by omega),ao (by omega) (by omega),mc];by_cases hx:x=0
    ·rw[bu hx];subst hx;obtain⟨g1,g2,g3,g4⟩:=hg rfl;have hb:=bn i hlt;have hb' :0≤bs.getD i 0∧bs.getD i 0<e:=hb;simp only[Int.toNat_natCast];rw[ao (by omega) (by omega),ao (by omega) (by omega),mc];have hnx:∀c' :List ab,∀y:Int,(y=0→PG m e R bs c0 c' (i+1))→∃x,ai (cg .i64 ((i:Int)+1)) (some (LR.next ((i:Int)+1,c',t3,y,([]:List Int),R,bs)):Option (LR PS PE PE))=some x∧qxr (jy4 m e R bs c0 t3) (fun s=>m-s.1.toNat) (jsd m e R bs c0 t3) (m-(i:Int).toNat) x:=fun c' y hy=>by
      rw[bk (by omega) (by omega),am];refine⟨_,rfl,⟨i+1,c',y,rfl,by omega,hy⟩,?_⟩;show m-((i+1:Nat):Int).toNat<m-(i:Int).toNat;omega
     by_cases h0:(gz c (gb bs i).toNat).1=0
     ·rw[bu (show(c.getD (bs.getD i 0).toNat ab.z).1=0 from h0)];refine hnx c 0 fun _=>⟨g1,g2,fun l hl=> ?_,g4⟩
      by_cases e1:l=i
      ·rw[e1];exact(qoz (g2 _ (by omega))).1 h0
      ·exact g3 l (by omega)
     ·rw[bg (show¬(c.getD (bs.getD i 0).toNat ab.z).1=0 from h0)];have hri:(R.getD i []).length=e+1:=rw' i hlt;rw[ao (by omega) (by omega),ao (by omega) (by omega),ao (by omega) (by omega),ao (by omega) (by omega),jb9 _ _ _ _ _ (by omega) (by omega),af];simp only[decide_true,lf];refine hnx _ _ fun hy=> ?_
      obtain⟨l1,l2⟩:=qov hy;have l3:=qyc hy (by omega);refine⟨by rw[←g1];exact l1,fun j hj=>(l2 j (by omega)).1,fun l hl=> ?_,?_⟩
      ·rw[l3];show fv (gz c (gb bs l).toNat)-fv (gz c (gb bs i).toNat)*fv (gz (ci R i) (gb bs l).toNat)=0;by_cases e1:l=i
       ·rw[e1,one i hlt];grind
       ·rw[g3 l (by omega),zero l i (by omega) hlt (fun e=>e1 e.symm)];grind
      ·have:=jn6 (m:=m) (n:=e+1) (A:=(tb c R bs).A) (c:=(tb c R bs).c) (B:=(tb c R bs).B) (fv (gz c (gb bs i).toNat)) hlt;refine g4.trans ?_;have e1:(tb (qcm c (R.getD i []) (c.getD (bs.getD i 0).toNat ab.z)).1 R bs)=⟨(tb c R bs).A,fun j=>(tb c R bs).c j-fv (gz c (gb bs i).toNat)*(tb c R bs).A i j,(tb c R bs).B⟩:=by
        simp only[tb];congr 1;funext j;exact l3 j
       rw[e1];exact this
    ·rw[bg hx];exact⟨_,rfl,c,x, .inr rfl,fun e=>absurd e hx⟩
   ·obtain rfl:i=m:=by omega
    rw[bj (by omega)];exact⟨_,rfl,c,x, .inl rfl,hg⟩)
 obtain⟨c,x,hor,hg⟩:=hp;have ho:vy (bs.length:Int) (0,c0,t3,0,[],R,bs)=some o:=ho;refine⟨c,x,?_,fun hx=> ?_⟩
 ·unfold fm;rw[ho,af];rcases hor with rfl|rfl<;>rfl
 ·obtain⟨g1,g2,g3,g4⟩:=hg hx;refine⟨⟨rl,rw',rn,g1,g2,bl,bn⟩,⟨fun i hi=> ?_,one,zero,g3⟩,g4⟩;have:=bn i hi;show(gb bs i).toNat<e+1;omega
end Go.Proofs.YteljgpepodpebaaGreat
