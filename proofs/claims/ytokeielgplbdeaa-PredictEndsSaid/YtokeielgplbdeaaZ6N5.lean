/-
  Predict: the reference's search of a space.
-/
import Derived.Test.YtokeielgplbdeaaZ6N4
set_option linter.all false
namespace Go.Proofs.Ytokeielgplbdeaa
open Go.K Go.M
theorem q5t{σ:p2}{x:List Int}{k:Nat}(h:qv7 σ x=some k):qpg σ.2.1 x=(k:Int):=by
 unfold qpg qyx;rw[show km (fun y:List Int=>decide (y=x)) σ.2.1=some k from h]
theorem qur{σ:p2}{x:List Int}(h:qv7 σ x=none):qpg σ.2.1 x= -1:=by
 unfold qpg qyx;rw[show km (fun y:List Int=>decide (y=x)) σ.2.1=none from h]
theorem ja9{n:c9}(h:Small n)(hv:de n=true){M:Nat}(hM:M≤100){σ:p2}(hs:SpI n M σ){i:Nat}(hi:i<σ.2.1.length)(hmv:σ.2.2.length≤10000):
  qfu (M:Int) (i:Int) n.1 n.2.1 n.2.2.1 n.2.2.2.1 [] [] false (0,σ.1,σ.2.1,σ.2.2)=
   some (.inl ((lq n M i (List.range n.2.1.length) σ).1,(lq n M i (List.range n.2.1.length) σ).2.1,(lq n M i (List.range n.2.1.length) σ).2.2)):=by
 have hT:=h.trans;have hN:=qig hv;refine iw (fun k:Nat=>((k:Int),(lq n M i (List.range k) σ).1,(lq n M i (List.range k) σ).2.1,(lq n M i (List.range k) σ).2.2)) n.2.1.length (bm (by omega)) _ (fun t ht=> ?_) ?_ _ (by rfl)
 ·obtain⟨f1,f2,f3,f4⟩:=ri (n:=n) (M:=M) (i:=i) (List.range t) hs;have e1:lq n M i (List.range (t+1)) σ=uz n M i (lq n M i (List.range t) σ) t:=by
   rw[List.range_succ];unfold lq;rw[List.foldl_append];rfl
  have hst:=f2 i hi;rw[List.length_range]at f4;generalize lq n M i (List.range t) σ=τ at f1 f2 f3 f4 e1 hst;rw[e1];have hil:i<τ.2.1.length:=by omega
  have hmS:df n.1 (cp τ i)=true:=f1.mks _ (az [] hil);have F:=qyp h hv hmS ht;have hC:=q56 ht F;have hA:=q6y ht (by omega) F;have en:((n.1,n.2.1,n.2.2.1,n.2.2.2.1,()):c9)=n:=rfl;have hlenM:=f1.len;have hFd:=qsr (τ.2.1,τ.2.2,τ.1,()) (cw (n.2.1.getD t ai.z) (cp τ i)) (by show τ.2.1.length≤_;omega) (fun x hx=>by have:=(ma.1 (f1.mks x hx)).1;omega);have eneg:decide (((-1):Int)<0)=true:=rfl;rcases pg n M i τ t with⟨g1,e⟩|⟨g1,g2,e⟩|⟨g1,g2,q,g3,e⟩|⟨g1,g2,g3,g4,e⟩|⟨g1,g2,g3,g4,e⟩
  ·rw[e];rw[show kw (n.2.1.getD t ai.z) (cp τ i)=false from g1]at hC;simp(disch:=omega)only[im,bh,j4,en,hC,Bool.not_false,aj,rs]
  ·rw[e];rw[show kw (n.2.1.getD t ai.z) (cp τ i)=true from g1]at hC;rw[show df n.1 (cw (n.2.1.getD t ai.z) (cp τ i))=false from g2]at hA;simp(disch:=omega)only[im,bh,j4,eb,mi,en,hC,hA,Bool.not_true,aj,rs]
  ·rw[e];rw[show kw (n.2.1.getD t ai.z) (cp τ i)=true from g1]at hC;rw[show df n.1 (cw (n.2.1.getD t ai.z) (cp τ i))=true from g2]at hA;rw[show qpg (τ.2.1,τ.2.2,τ.1,()).1 (cw (n.2.1.getD t ai.z) (cp τ i))=(q:Int)from q5t g3]at hFd;simp(disch:=omega)only[im,bh,j4,eb,mi,fg,pu,en,hC,hA,hFd,Bool.not_true,aj,rs];rfl
  ·rw[e];rw[show kw (n.2.1.getD t ai.z) (cp τ i)=true from g1]at hC;rw[show df n.1 (cw (n.2.1.getD t ai.z) (cp τ i))=true from g2]at hA;rw[show qpg (τ.2.1,τ.2.2,τ.1,()).1 (cw (n.2.1.getD t ai.z) (cp τ i))= -1 from qur g3]at hFd;have hd:decide ((τ.2.1.length:Int)<(M:Int))=true:=decide_eq_true (by omega);simp(disch:=omega)only[im,bh,j4,eb,mi,fg,pu,en,hC,hA,hFd,hd,Bool.not_true,aj,rs];rfl
  ·rw[e];rw[show kw (n.2.1.getD t ai.z) (cp τ i)=true from g1]at hC;rw[show df n.1 (cw (n.2.1.getD t ai.z) (cp τ i))=true from g2]at hA;rw[show qpg (τ.2.1,τ.2.2,τ.1,()).1 (cw (n.2.1.getD t ai.z) (cp τ i))= -1 from qur g3]at hFd;have hd:decide ((τ.2.1.length:Int)<(M:Int))=false:=decide_eq_false (by omega);simp(disch:=omega)only[im,bh,j4,eb,mi,fg,pu,en,hC,hA,hFd,hd,Bool.not_true,aj,rs]
 ·simp(disch:=omega)only[im,rs]
theorem jba{n:c9}(h:Small n)(hv:de n=true){M:Nat}(hM:M≤100):∀(f i:Nat) {σ:p2},SpI n M σ→M<f+i→σ.2.2.length≤100*i→
  ky (fun a=>mh (M:Int) n.1 n.2.1 n.2.2.1 n.2.2.2.1 [] [] false a.1 a.2.1 a.2.2.1 a.2.2.2 (fun a' =>some (.next a')) (fun e=>some (.done e)) (fun r=>some (.ret r))) (f+1) ((i:Int),σ.1,σ.2.1,σ.2.2)=
   some (.inl ((wm n M f i σ).1,(wm n M f i σ).2.1,(wm n M f i σ).2.2)):=by
 intro f
 induction f with
 |zero=>
  intro i σ hs hf hm;have:=hs.len;rw[be];simp(disch:=omega)only[mh,rs];rfl
 |succ f ih=>
  intro i σ hs hf hm;have hlen:=hs.len;rw[be];by_cases hi:i<σ.2.1.length
  ·have e0:wm n M (f+1) i σ=wm n M f (i+1) (lq n M i (List.range n.2.1.length) σ):=by
    show(if i<σ.2.1.length then _ else _)=_;rw[if_pos hi]
   have hL:=ja9 h hv hM hs hi (by omega);have ihh:=ih (i+1) (ri (n:=n) (M:=M) (i:=i) (List.range n.2.1.length) hs).1 (by omega) (q9d h hs hm);rw[e0,←ihh];simp(disch:=omega)only[mh,hL,aj,rs];rfl
  ·have e0:wm n M (f+1) i σ=σ:=by
    show(if i<σ.2.1.length then _ else _)=_;rw[if_neg hi]
   rw[e0];simp(disch:=omega)only[mh,rs];rfl
theorem qts{n:c9}(h:Small n)(m:List Int)(hl:m.length≤1000000)(most:Int)(hmost:¬(100<most∧most≤2000)):qbs n m most=
  some (bif de n&&df n.1 m then(if most<1∨2000<most then(([],[],false,()),2)else(((spc n most.toNat m).2.1,(spc n most.toNat m).2.2,(spc n most.toNat m).1,()),0))else(([],[],false,()),1)):=by
 have hV:=qho h;have hK:=wd n m hl;unfold qbs;cases hv:de n with
 |false=>
  rw[hv]at hV;simp(disch:=omega)only[hV,Bool.not_false,Bool.false_and,rs]
 |true=>
  rw[hv]at hV;cases hmk:df n.1 m with
  |false=>
   rw[hmk]at hK;simp(disch:=omega)only[hV,hK,Bool.not_true,Bool.not_false,Bool.and_false,rs]
  |true=>
   rw[hmk]at hK;by_cases h1:most<1
   ·rw[if_pos (.inl h1)];simp(disch:=omega)only[hV,hK,Bool.not_true,Bool.and_self,rs]
   ·by_cases h2:2000<most
    ·rw[if_pos (.inr h2)];simp(disch:=omega)only[hV,hK,Bool.not_true,Bool.and_self,rs]
    ·rw[if_neg (by omega)];obtain⟨M,rfl⟩:∃M:Nat,most=(M:Int):=⟨most.toNat,by omega⟩;have hL:=jba h hv (M:=M) (by omega) (M+1) 0 (qxq hmk (by omega)) (by omega) (Nat.zero_le _);have hL2:qfv (M:Int) n.1 n.2.1 n.2.2.1 n.2.2.2.1 [] [] false (0,true,[m],[])=some (.inl ((spc n M m).1,(spc n M m).2.1,(spc n M m).2.2)):=i7 hL (bm (by omega));simp(disch:=omega)only[hV,hK,Bool.not_true,Bool.and_self,List.nil_append,hL2,rs]
end Go.Proofs.Ytokeielgplbdeaa
