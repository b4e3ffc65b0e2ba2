/-
  Matrices: which are small; Rank and Det: the statement MatrixRanks in plain words.
-/
import Derived.Test.YtclbndfjhjladaaGreatZ5PQ2
set_option linter.all false
namespace Go.Proofs.YtclbndfjhjladaaGreat
open Go.K Go.M
section
variable {R C : Nat} {A : Nat → Nat → Int}
def ab(x:Int):Int:=max x (0-x)
theorem ji7(x:Int):0≤ab x:=by unfold ab;omega
def aS(C:Nat)(A:Nat→Nat→Int)(i:Nat):Int:=af (fun j=>ab (A i j)) C
def pr(C:Nat)(A:Nat→Nat→Int):Nat→Int
 |0=>1
 |n+1=>pr C A n*max (aS C A n) 1
theorem jlb{f:Nat→Int}:∀n,(∀k,k<n→0≤f k)→0≤af f n
 |0,_=>Int.le_refl _
 |n+1,h=>by
  have:=jlb n fun k hk=>h k (by omega)
  have:=h n (by omega);simp only[af];omega
theorem jus(hC:C≤50)(hA:∀i j,-1048576≤A i j∧A i j≤1048576)(i:Nat){n:Nat}(hn:n≤C):0≤af (fun j=>ab (A i j)) n∧af (fun j=>ab (A i j)) n≤52428800:=by
 refine⟨jlb n fun k _=>ji7 _,?_⟩;have:=(qt2 (b:=1048576) n (f:=fun j=>ab (A i j)) fun k _=>by have:=hA i k;unfold ab;omega).2;have h2:(n:Int)*1048576≤50*1048576:=Int.mul_le_mul_of_nonneg_right (by omega) (by omega);omega
theorem qzs(C:Nat)(A:Nat→Nat→Int):∀n,1≤pr C A n
 |0=>Int.le_refl _
 |n+1=>by
  have h:=qzs C A n;have h1:1≤max (aS C A n) 1:=by omega
  have h2:pr C A n*1≤pr C A n*max (aS C A n) 1:=Int.mul_le_mul_of_nonneg_left h1 (by omega);show 1≤pr C A n*max (aS C A n) 1;omega
theorem jty(C:Nat)(A:Nat→Nat→Int)(n:Nat):pr C A n≤pr C A (n+1):=by
 have h:=qzs C A n;have h1:1≤max (aS C A n) 1:=by omega
 have h2:pr C A n*1≤pr C A n*max (aS C A n) 1:=Int.mul_le_mul_of_nonneg_left h1 (by omega);show pr C A n≤pr C A n*max (aS C A n) 1;omega
theorem jvd(C:Nat)(A:Nat→Nat→Int)(n:Nat):∀k,pr C A n≤pr C A (n+k)
 |0=>Int.le_refl _
 |k+1=>Int.le_trans (jvd C A n k) (jty C A (n+k))
def jdf(R C:Nat)(A:Nat→Nat→Int):Bool:=decide (pr C A R≤1073741824)
theorem jx6{x:Int}(h0: -1048576≤x)(h1:x≤1048576):ql7 x=some (ab x):=by
 unfold ql7 ab;rw[qcu (by omega) (by omega)]
theorem jiq(hC:C≤50)(hA:∀i j,-1048576≤A i j∧A i j≤1048576)(i:Nat)(p:Int)(x:List (List Int))(a b:Int):qp0 p x a b (bh C (A i)) (C:Int) (0,0)=some (.inl (aS C A i)):=by
 refine cn (fun j:Nat=>(af (fun j=>ab (A i j)) j,(j:Int))) C (bc (by omega)) _ ?_ ?_ _ rfl
 ·intro j hj;have h1:=jus hC hA i (n:=j) (by omega);have h2:=hA i j;have h3:=jx6 h2.1 h2.2;have h4:=ji7 (A i j);have h5:ab (A i j)≤1048576:=by unfold ab;omega
  simp(disch:=omega)only[wy,cq,fq hj,h3,rs];rw[ah];rfl
 ·simp(disch:=omega)only[wy,rs];rfl
theorem jtz(hC:C≤50)(hA:∀i j,-1048576≤A i j∧A i j≤1048576){i:Nat}(h:pr C A i≤1073741824):1≤pr C A (i+1)∧pr C A (i+1)≤1073741824*52428800:=by
 refine⟨qzs C A (i+1),?_⟩;have h1:=qzs C A i;have h2:=jus hC hA i (Nat.le_refl C);have h3:=oi (a:=1073741824) (b:=52428800) (x:=pr C A i) (y:=max (aS C A i) 1) ⟨by omega,h⟩ (by unfold aS;omega);exact h3.2
theorem jmz(hR:R≤50)(hC:C≤50)(hA:∀i j,-1048576≤A i j∧A i j≤1048576):qfb (T2 R C A)=some (jdf R C A):=by
 obtain⟨o,ho,hp⟩:∃o,qp1 (T2 R C A) (R:Int) (1,0)=some o∧(o= .inl ()∧jdf R C A=true∨o= .inr false∧jdf R C A=false):=by
  refine og (fun s=>∃i:Nat,s=(pr C A i,(i:Int))∧i≤R∧pr C A i≤1073741824) (fun s=>R+1-Int.toNat s.2) _ _ ⟨0,rfl,Nat.zero_le _,by simp[pr]⟩ (by show R+1-Int.toNat 0<many;unfold many;omega) ?_;rintro s ⟨i,rfl,hi,hpi⟩;by_cases hlt:i<R
  ·have hL0:=jiq hC hA i (pr C A i) (T2 R C A) (R:Int) (i:Int);obtain⟨h1,h2⟩:=jtz hC hA hpi;have hpe:pr C A i*max (aS C A i) 1=pr C A (i+1):=rfl;by_cases hb:1073741824<pr C A (i+1)
   ·refine⟨.ret false,by simp(disch:=omega)only[rc,tw,qd3 hlt,cq,hL0,hpe,rs], .inr ⟨rfl,?_⟩⟩;have:=jvd C A (i+1) (R-(i+1));rw[show i+1+(R-(i+1))=R by omega]at this;exact decide_eq_false (by omega)
   ·refine⟨.next (pr C A (i+1),(i:Int)+1),by simp(disch:=omega)only[rc,tw,qd3 hlt,cq,hL0,hpe,rs],⟨i+1,by rw[ah],hlt,by omega⟩,by simp only[];omega⟩
  ·obtain rfl:i=R:=by omega
   exact⟨.done (),by simp(disch:=omega)only[rc,rs], .inl ⟨rfl,decide_eq_true hpi⟩⟩
 unfold qfb;rw[tw,ho,ax];rcases hp with⟨rfl,h⟩|⟨rfl,h⟩<;>rw[h]<;>rfl
end
end Go.Proofs.YtclbndfjhjladaaGreat
