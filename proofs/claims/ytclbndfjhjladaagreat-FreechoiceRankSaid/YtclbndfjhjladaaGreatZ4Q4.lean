/-
  Matrices: which are small; Rank and Det: the statement MatrixRanks in plain words.
-/
import Derived.Test.YtclbndfjhjladaaGreatZ4Q3
set_option linter.all false
namespace Go.Proofs.YtclbndfjhjladaaGreat
open Go.K Go.M
theorem jzd{m:List (List Int)}(h:qyf m=true):∃(R C:Nat) (A:Nat→Nat→Int),m=T2 R C A∧m.length=R∧(m.getD 0 []).length=C∧1≤R∧R≤20∧1≤C∧C≤20∧∀i j,-1048576≤A i j∧A i j≤1048576:=by
 unfold qyf at h;simp only[Bool.and_eq_true,decide_eq_true_eq,List.all_eq_true]at h;obtain⟨⟨⟨⟨h1,h2⟩,h3⟩,h4⟩,h5⟩:=h;refine⟨m.length,(m.getD 0 []).length,fun i j=>(m.getD i []).getD j 0,?_,rfl,rfl,h1,h2,h3,h4,fun i j=> ?_⟩
 ·conv=>lhs;rw[q5w m []]
  refine bp fun i hi=> ?_
  have hl:=(h5 _ (ao [] hi)).1
  conv=>lhs;rw[q5w (m.getD i []) 0]
  rw[hl]
 ·by_cases hi:i<m.length
  ·by_cases hj:j<(m.getD i []).length
   ·have:=(h5 _ (ao [] hi)).2 _ (ao 0 hj);simp only[qe0,Bool.and_eq_true,decide_eq_true_eq]at this;exact this
   ·have:(m.getD i []).getD j 0=0:=by simp[List.getD_eq_getElem?_getD]at hj⊢;rw[List.getElem?_eq_none (by omega)];rfl
    simp only[this];omega
  ·have:m.getD i []=[]:=by simp only[List.getD_eq_getElem?_getD];rw[List.getElem?_eq_none (by omega)];rfl
   simp only[this];simp
section
variable {R C : Nat} {A : Nat → Nat → Int}
def ab(x:Int):Int:=max x (0-x)
theorem jv6(x:Int):0≤ab x:=by unfold ab;omega
def aS(C:Nat)(A:Nat→Nat→Int)(i:Nat):Int:=a7 (fun j=>ab (A i j)) C
def pr(C:Nat)(A:Nat→Nat→Int):Nat→Int
 |0=>1
 |n+1=>pr C A n*max (aS C A n) 1
theorem jth{f:Nat→Int}:∀n,(∀k,k<n→0≤f k)→0≤a7 f n
 |0,_=>Int.le_refl _
 |n+1,h=>by
  have:=jth n fun k hk=>h k (by omega)
  have:=h n (by omega);simp only[a7];omega
theorem jrq(hC:C≤50)(hA:∀i j,-1048576≤A i j∧A i j≤1048576)(i:Nat){n:Nat}(hn:n≤C):0≤a7 (fun j=>ab (A i j)) n∧a7 (fun j=>ab (A i j)) n≤52428800:=by
 refine⟨jth n fun k _=>jv6 _,?_⟩;have:=(qye (b:=1048576) n (f:=fun j=>ab (A i j)) fun k _=>by have:=hA i k;unfold ab;omega).2;have h2:(n:Int)*1048576≤50*1048576:=Int.mul_le_mul_of_nonneg_right (by omega) (by omega);omega
theorem jkp(C:Nat)(A:Nat→Nat→Int):∀n,1≤pr C A n
 |0=>Int.le_refl _
 |n+1=>by
  have h:=jkp C A n;have h1:1≤max (aS C A n) 1:=by omega
  have h2:pr C A n*1≤pr C A n*max (aS C A n) 1:=Int.mul_le_mul_of_nonneg_left h1 (by omega);show 1≤pr C A n*max (aS C A n) 1;omega
theorem j1e(C:Nat)(A:Nat→Nat→Int)(n:Nat):pr C A n≤pr C A (n+1):=by
 have h:=jkp C A n;have h1:1≤max (aS C A n) 1:=by omega
 have h2:pr C A n*1≤pr C A n*max (aS C A n) 1:=Int.mul_le_mul_of_nonneg_left h1 (by omega);show pr C A n≤pr C A n*max (aS C A n) 1;omega
theorem jyf(C:Nat)(A:Nat→Nat→Int)(n:Nat):∀k,pr C A n≤pr C A (n+k)
 |0=>Int.le_refl _
 |k+1=>Int.le_trans (jyf C A n k) (j1e C A (n+k))
def qx9(R C:Nat)(A:Nat→Nat→Int):Bool:=decide (pr C A R≤1073741824)
theorem j5j{x:Int}(h0: -1048576≤x)(h1:x≤1048576):qoa x=some (ab x):=by
 unfold qoa ab;rw[ji4 (by omega) (by omega)]
theorem jx5{x:Int}(h0: -1048576≤x)(h1:x≤1048576):xq x=some (ab x):=by
 unfold xq ab;by_cases h:x<0
 ·rw[qq5 h,ji4 (by omega) (by omega)];refine congrArg some ?_;omega
 ·rw[ji0 (by omega)];refine congrArg some ?_;omega
theorem jq5(hC:C≤50)(hA:∀i j,-1048576≤A i j∧A i j≤1048576)(i:Nat)(p:Int)(x:List (List Int))(a b:Int):qr4 p x a b (bh C (A i)) (C:Int) (0,0)=some (.inl (aS C A i)):=by
 refine a9 (fun j:Nat=>(a7 (fun j=>ab (A i j)) j,(j:Int))) C (aw (by omega)) _ ?_ ?_ _ rfl
 ·intro j hj;have h1:=jrq hC hA i (n:=j) (by omega);have h2:=hA i j;have h3:=j5j h2.1 h2.2;have h4:=jv6 (A i j);have h5:ab (A i j)≤1048576:=by unfold ab;omega
  simp(disch:=omega)only[wl,bn,di hj,h3,rs];rw[ag];rfl
 ·simp(disch:=omega)only[wl,rs];rfl
theorem jgw(hR:R≤50)(hC:C≤50)(hA:∀i j,-1048576≤A i j∧A i j≤1048576){i:Nat}(hi:i<R)(p:Int):qv2 (T2 R C A) p (i:Int) (0,0)=some (.inl (aS C A i)):=by
 refine a9 (fun j:Nat=>(a7 (fun j=>ab (A i j)) j,(j:Int))) C (aw (by omega)) _ ?_ ?_ _ rfl
 ·intro j hj;have h1:=jrq hC hA i (n:=j) (by omega);have h2:=hA i j;have h3:=jx5 h2.1 h2.2;have h4:=jv6 (A i j);have h5:ab (A i j)≤1048576:=by unfold ab;omega
  simp(disch:=omega)only[qaf,c9,ji hi,bn,di hj,h3,rs];rw[ag];rfl
 ·simp(disch:=omega)only[qaf,c9,ji hi,bn,rs];rfl
theorem jsv(hC:C≤50)(hA:∀i j,-1048576≤A i j∧A i j≤1048576){i:Nat}(h:pr C A i≤1073741824):1≤pr C A (i+1)∧pr C A (i+1)≤1073741824*52428800:=by
 refine⟨jkp C A (i+1),?_⟩;have h1:=jkp C A i;have h2:=jrq hC hA i (Nat.le_refl C);have h3:=lj (a:=1073741824) (b:=52428800) (x:=pr C A i) (y:=max (aS C A i) 1) ⟨by omega,h⟩ (by unfold aS;omega);exact h3.2
theorem juz(hR:R≤50)(hC:C≤50)(hA:∀i j,-1048576≤A i j∧A i j≤1048576):qgc (T2 R C A)=some (qx9 R C A):=by
 obtain⟨o,ho,hp⟩:∃o,qr5 (T2 R C A) (R:Int) (1,0)=some o∧(o= .inl ()∧qx9 R C A=true∨o= .inr false∧qx9 R C A=false):=by
  refine da (fun s=>∃i:Nat,s=(pr C A i,(i:Int))∧i≤R∧pr C A i≤1073741824) (fun s=>R+1-Int.toNat s.2) _ _ ⟨0,rfl,Nat.zero_le _,by simp[pr]⟩ (by show R+1-Int.toNat 0<many;unfold many;omega) ?_;rintro s ⟨i,rfl,hi,hpi⟩;by_cases hlt:i<R
  ·have hL0:=jq5 hC hA i (pr C A i) (T2 R C A) (R:Int) (i:Int);obtain⟨h1,h2⟩:=jsv hC hA hpi;have hpe:pr C A i*max (aS C A i) 1=pr C A (i+1):=rfl;by_cases hb:1073741824<pr C A (i+1)
   ·refine⟨.ret false,by simp(disch:=omega)only[qr,c9,ji hlt,bn,hL0,hpe,rs], .inr ⟨rfl,?_⟩⟩;have:=jyf C A (i+1) (R-(i+1));rw[show i+1+(R-(i+1))=R by omega]at this;exact decide_eq_false (by omega)
   ·refine⟨.next (pr C A (i+1),(i:Int)+1),by simp(disch:=omega)only[qr,c9,ji hlt,bn,hL0,hpe,rs],⟨i+1,by rw[ag],hlt,by omega⟩,by simp only[];omega⟩
  ·obtain rfl:i=R:=by omega
   exact⟨.done (),by simp(disch:=omega)only[qr,rs], .inl ⟨rfl,decide_eq_true hpi⟩⟩
 unfold qgc;rw[c9,ho,au];rcases hp with⟨rfl,h⟩|⟨rfl,h⟩<;>rw[h]<;>rfl
theorem joo(hR:R≤50)(hC:C≤50)(hA:∀i j,-1048576≤A i j∧A i j≤1048576):qi6 (T2 R C A)=some (qx9 R C A):=by
 obtain⟨o,ho,hp⟩:∃o,qv3 (T2 R C A) (1,0)=some o∧(o= .inl ()∧qx9 R C A=true∨o= .inr false∧qx9 R C A=false):=by
  refine da (fun s=>∃i:Nat,s=(pr C A i,(i:Int))∧i≤R∧pr C A i≤1073741824) (fun s=>R+1-Int.toNat s.2) _ _ ⟨0,rfl,Nat.zero_le _,by simp[pr]⟩ (by show R+1-Int.toNat 0<many;unfold many;omega) ?_;rintro s ⟨i,rfl,hi,hpi⟩;by_cases hlt:i<R
  ·have hL0:=jgw hR hC hA hlt (pr C A i);obtain⟨h1,h2⟩:=jsv hC hA hpi;have hnn:=(jrq hC hA i (Nat.le_refl C)).1;have hpe:pr C A (i+1)=pr C A i*max (aS C A i) 1:=rfl;by_cases hz:0<aS C A i
   ·have hpe' :pr C A i*aS C A i=pr C A (i+1):=by rw[hpe];congr 1;omega
    by_cases hb:1073741824<pr C A (i+1)
    ·refine⟨.ret false,by simp(disch:=omega)only[nu,c9,hL0,hpe',rs], .inr ⟨rfl,?_⟩⟩;have:=jyf C A (i+1) (R-(i+1));rw[show i+1+(R-(i+1))=R by omega]at this;exact decide_eq_false (by omega)
    ·refine⟨.next (pr C A (i+1),(i:Int)+1),by simp(disch:=omega)only[nu,c9,hL0,hpe',rs],⟨i+1,by rw[ag],hlt,by omega⟩,by simp only[];omega⟩
   ·have hpe' :pr C A (i+1)=pr C A i:=by
     have:max (aS C A i) 1=1:=by unfold aS at hz⊢;omega
     rw[hpe,this,Int.mul_one]
    refine⟨.next (pr C A i,(i:Int)+1),by simp(disch:=omega)only[nu,c9,hL0,rs],⟨i+1,by rw[ag,hpe'],hlt,by omega⟩,by simp only[];omega⟩
  ·obtain rfl:i=R:=by omega
   exact⟨.done (),by simp(disch:=omega)only[nu,c9,rs], .inl ⟨rfl,decide_eq_true hpi⟩⟩
 unfold qi6;rw[ho,au];rcases hp with⟨rfl,h⟩|⟨rfl,h⟩<;>rw[h]<;>rfl
end
theorem ju4{m:List (List Int)}(h:∀r∈m,r.length≤9223372036854775806):∃a b,ya m=some (a,b)∧qcs m=some (a,b):=by
 cases hv:qyf m with
 |false=>
  refine⟨0,1,?_,?_⟩
  ·unfold ya;rw[jht m h,hv];rfl
  ·unfold qcs;rw[qob,hv];rfl
 |true=>
  obtain⟨R,C,A,rfl,hR,hC,r1,r2,c1,c2,hA⟩:=jzd hv;have hval:=jht _ h;rw[hv]at hval;have hs:=juz (R:=R) (C:=C) (by omega) (by omega) hA;have hs' :=joo (R:=R) (C:=C) (by omega) (by omega) hA;have h0:0<R:=by omega
  cases hsm:qx9 R C A with
  |false=>
   rw[hsm]at hs hs';refine⟨0,6,?_,?_⟩
   ·unfold ya;simp(disch:=omega)only[hval,Bool.not_true,hs,Bool.not_false,rs]
   ·unfold qcs;simp(disch:=omega)only[qob,hv,Bool.not_true,hs',Bool.not_false,rs]
  |true=>
   rw[hsm]at hs hs';have hred:=ju6 (R:=R) (C:=C) (by omega) (by omega) c1 (Nat.le_refl C) A;have hred' :=jlg (R:=R) (C:=C) (by omega) (by omega) (Nat.le_refl C) A;refine⟨((jy (cp R A C).piv).length:Int),0,?_,?_⟩
   ·unfold ya;simp(disch:=omega)only[hval,Bool.not_true,hs,c9,ji h0,bn,hred,rs]
   ·unfold qcs;simp(disch:=omega)only[qob,hv,Bool.not_true,hs',c9,ji h0,bn,hred',rs]
end Go.Proofs.YtclbndfjhjladaaGreat
