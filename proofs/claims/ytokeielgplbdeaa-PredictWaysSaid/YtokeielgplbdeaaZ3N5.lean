/-
  Predict: the reference's search of a space.
-/
import Derived.Test.YtokeielgplbdeaaZ3N4
set_option linter.all false
namespace Go.Proofs.Ytokeielgplbdeaa
open Go.K Go.M
theorem q9l{σ:q4}{x:List Int}{k:Nat}(h:qzo σ x=some k):qrq σ.2.1 x=(k:Int):=by
 unfold qrq q2j;rw[show kl (fun y:List Int=>decide (y=x)) σ.2.1=some k from h]
theorem qx9{σ:q4}{x:List Int}(h:qzo σ x=none):qrq σ.2.1 x= -1:=by
 unfold qrq q2j;rw[show kl (fun y:List Int=>decide (y=x)) σ.2.1=none from h]
theorem je0{n:cx}(h:Small n)(hv:ey n=true){M:Nat}(hM:M≤100){σ:q4}(hs:SpI n M σ){i:Nat}(hi:i<σ.2.1.length)(hmv:σ.2.2.length≤10000):
  qf0 (M:Int) (i:Int) n.1 n.2.1 n.2.2.1 n.2.2.2.1 [] [] false (0,σ.1,σ.2.1,σ.2.2)=
   some (.inl ((lm n M i (List.range n.2.1.length) σ).1,(lm n M i (List.range n.2.1.length) σ).2.1,(lm n M i (List.range n.2.1.length) σ).2.2)):=by
 have hT:=h.trans;have hN:=qix hv;refine jh (fun k:Nat=>((k:Int),(lm n M i (List.range k) σ).1,(lm n M i (List.range k) σ).2.1,(lm n M i (List.range k) σ).2.2)) n.2.1.length (bv (by omega)) _ (fun t ht=> ?_) ?_ _ (by rfl)
 ·obtain⟨f1,f2,f3,f4⟩:=qy (n:=n) (M:=M) (i:=i) (List.range t) hs;have e1:lm n M i (List.range (t+1)) σ=uo n M i (lm n M i (List.range t) σ) t:=by
   rw[List.range_succ];unfold lm;rw[List.foldl_append];rfl
  have hst:=f2 i hi;rw[List.length_range]at f4;generalize lm n M i (List.range t) σ=τ at f1 f2 f3 f4 e1 hst;rw[e1];have hil:i<τ.2.1.length:=by omega
  have hmS:di n.1 (dg τ i)=true:=f1.mks _ (ba [] hil);have F:=jbg h hv hmS ht;have hC:=q9x ht F;have hA:=jaq ht (by omega) F;have en:((n.1,n.2.1,n.2.2.1,n.2.2.2.1,()):cx)=n:=rfl;have hlenM:=f1.len;have hFd:=qvs (τ.2.1,τ.2.2,τ.1,()) (c6 (n.2.1.getD t ag.z) (dg τ i)) (by show τ.2.1.length≤_;omega) (fun x hx=>by have:=(rb.1 (f1.mks x hx)).1;omega);have eneg:decide (((-1):Int)<0)=true:=rfl;rcases ph n M i τ t with⟨g1,e⟩|⟨g1,g2,e⟩|⟨g1,g2,q,g3,e⟩|⟨g1,g2,g3,g4,e⟩|⟨g1,g2,g3,g4,e⟩
  ·rw[e];rw[show k6 (n.2.1.getD t ag.z) (dg τ i)=false from g1]at hC;simp(disch:=omega)only[fx,bm,ii,en,hC,Bool.not_false,al,rs]
  ·rw[e];rw[show k6 (n.2.1.getD t ag.z) (dg τ i)=true from g1]at hC;rw[show di n.1 (c6 (n.2.1.getD t ag.z) (dg τ i))=false from g2]at hA;simp(disch:=omega)only[fx,bm,ii,d9,jz,en,hC,hA,Bool.not_true,al,rs]
  ·rw[e];rw[show k6 (n.2.1.getD t ag.z) (dg τ i)=true from g1]at hC;rw[show di n.1 (c6 (n.2.1.getD t ag.z) (dg τ i))=true from g2]at hA;rw[show qrq (τ.2.1,τ.2.2,τ.1,()).1 (c6 (n.2.1.getD t ag.z) (dg τ i))=(q:Int)from q9l g3]at hFd;simp(disch:=omega)only[fx,bm,ii,d9,jz,ff,mc,en,hC,hA,hFd,Bool.not_true,al,rs];rfl
  ·rw[e];rw[show k6 (n.2.1.getD t ag.z) (dg τ i)=true from g1]at hC;rw[show di n.1 (c6 (n.2.1.getD t ag.z) (dg τ i))=true from g2]at hA;rw[show qrq (τ.2.1,τ.2.2,τ.1,()).1 (c6 (n.2.1.getD t ag.z) (dg τ i))= -1 from qx9 g3]at hFd;have hd:decide ((τ.2.1.length:Int)<(M:Int))=true:=decide_eq_true (by omega);simp(disch:=omega)only[fx,bm,ii,d9,jz,ff,mc,en,hC,hA,hFd,hd,Bool.not_true,al,rs];rfl
  ·rw[e];rw[show k6 (n.2.1.getD t ag.z) (dg τ i)=true from g1]at hC;rw[show di n.1 (c6 (n.2.1.getD t ag.z) (dg τ i))=true from g2]at hA;rw[show qrq (τ.2.1,τ.2.2,τ.1,()).1 (c6 (n.2.1.getD t ag.z) (dg τ i))= -1 from qx9 g3]at hFd;have hd:decide ((τ.2.1.length:Int)<(M:Int))=false:=decide_eq_false (by omega);simp(disch:=omega)only[fx,bm,ii,d9,jz,ff,mc,en,hC,hA,hFd,hd,Bool.not_true,al,rs]
 ·simp(disch:=omega)only[fx,rs]
theorem je1{n:cx}(h:Small n)(hv:ey n=true){M:Nat}(hM:M≤100):∀(f i:Nat) {σ:q4},SpI n M σ→M<f+i→σ.2.2.length≤100*i→
  k8 (fun a=>jy (M:Int) n.1 n.2.1 n.2.2.1 n.2.2.2.1 [] [] false a.1 a.2.1 a.2.2.1 a.2.2.2 (fun a' =>some (.next a')) (fun e=>some (.done e)) (fun r=>some (.ret r))) (f+1) ((i:Int),σ.1,σ.2.1,σ.2.2)=
   some (.inl ((we n M f i σ).1,(we n M f i σ).2.1,(we n M f i σ).2.2)):=by
 intro f
 induction f with
 |zero=>
  intro i σ hs hf hm;have:=hs.len;rw[bk];simp(disch:=omega)only[jy,rs];rfl
 |succ f ih=>
  intro i σ hs hf hm;have hlen:=hs.len;rw[bk];by_cases hi:i<σ.2.1.length
  ·have e0:we n M (f+1) i σ=we n M f (i+1) (lm n M i (List.range n.2.1.length) σ):=by
    show(if i<σ.2.1.length then _ else _)=_;rw[if_pos hi]
   have hL:=je0 h hv hM hs hi (by omega);have ihh:=ih (i+1) (qy (n:=n) (M:=M) (i:=i) (List.range n.2.1.length) hs).1 (by omega) (jc4 h hs hm);rw[e0,←ihh];simp(disch:=omega)only[jy,hL,al,rs];rfl
  ·have e0:we n M (f+1) i σ=σ:=by
    show(if i<σ.2.1.length then _ else _)=_;rw[if_neg hi]
   rw[e0];simp(disch:=omega)only[jy,rs];rfl
theorem qxa{n:cx}(h:Small n)(m:List Int)(hl:m.length≤1000000)(most:Int)(hmost:¬(100<most∧most≤2000)):v5 n m most=
  some (bif ey n&&di n.1 m then(if most<1∨2000<most then(([],[],false,()),2)else(((spc n most.toNat m).2.1,(spc n most.toNat m).2.2,(spc n most.toNat m).1,()),0))else(([],[],false,()),1)):=by
 have hV:=qh6 h;have hK:=v7 n m hl;unfold v5;cases hv:ey n with
 |false=>
  rw[hv]at hV;simp(disch:=omega)only[hV,Bool.not_false,Bool.false_and,rs]
 |true=>
  rw[hv]at hV;cases hmk:di n.1 m with
  |false=>
   rw[hmk]at hK;simp(disch:=omega)only[hV,hK,Bool.not_true,Bool.not_false,Bool.and_false,rs]
  |true=>
   rw[hmk]at hK;by_cases h1:most<1
   ·rw[if_pos (.inl h1)];simp(disch:=omega)only[hV,hK,Bool.not_true,Bool.and_self,rs]
   ·by_cases h2:2000<most
    ·rw[if_pos (.inr h2)];simp(disch:=omega)only[hV,hK,Bool.not_true,Bool.and_self,rs]
    ·rw[if_neg (by omega)];obtain⟨M,rfl⟩:∃M:Nat,most=(M:Int):=⟨most.toNat,by omega⟩;have hL:=je1 h hv (M:=M) (by omega) (M+1) 0 (q1d hmk (by omega)) (by omega) (Nat.zero_le _);have hL2:qf1 (M:Int) n.1 n.2.1 n.2.2.1 n.2.2.2.1 [] [] false (0,true,[m],[])=some (.inl ((spc n M m).1,(spc n M m).2.1,(spc n M m).2.2)):=jg hL (bv (by omega));simp(disch:=omega)only[hV,hK,Bool.not_true,Bool.and_self,List.nil_append,hL2,rs]
end Go.Proofs.Ytokeielgplbdeaa
