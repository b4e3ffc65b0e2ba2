/-
  Predict: the reference's search of a space.
-/
import Derived.Test.YtokeielgplbdeaaZ4N4
set_option linter.all false
namespace Go.Proofs.Ytokeielgplbdeaa
open Go.K Go.M
theorem q4z{σ:ox}{x:List Int}{k:Nat}(h:qvk σ x=some k):qov σ.2.1 x=(k:Int):=by
 unfold qov qx4;rw[show km (fun y:List Int=>decide (y=x)) σ.2.1=some k from h]
theorem qt2{σ:ox}{x:List Int}(h:qvk σ x=none):qov σ.2.1 x= -1:=by
 unfold qov qx4;rw[show km (fun y:List Int=>decide (y=x)) σ.2.1=none from h]
theorem jaf{n:c8}(h:Small n)(hv:db n=true){M:Nat}(hM:M≤100){σ:ox}(hs:SpI n M σ){i:Nat}(hi:i<σ.2.1.length)(hmv:σ.2.2.length≤10000):
  qfp (M:Int) (i:Int) n.1 n.2.1 n.2.2.1 n.2.2.2.1 [] [] false (0,σ.1,σ.2.1,σ.2.2)=
   some (.inl ((k9 n M i (List.range n.2.1.length) σ).1,(k9 n M i (List.range n.2.1.length) σ).2.1,(k9 n M i (List.range n.2.1.length) σ).2.2)):=by
 have hT:=h.trans;have hN:=qe1 hv;refine iz (fun k:Nat=>((k:Int),(k9 n M i (List.range k) σ).1,(k9 n M i (List.range k) σ).2.1,(k9 n M i (List.range k) σ).2.2)) n.2.1.length (bh (by omega)) _ (fun t ht=> ?_) ?_ _ (by rfl)
 ·obtain⟨f1,f2,f3,f4⟩:=pm (n:=n) (M:=M) (i:=i) (List.range t) hs;have e1:k9 n M i (List.range (t+1)) σ=sn n M i (k9 n M i (List.range t) σ) t:=by
   rw[List.range_succ];unfold k9;rw[List.foldl_append];rfl
  have hst:=f2 i hi;rw[List.length_range]at f4;generalize k9 n M i (List.range t) σ=τ at f1 f2 f3 f4 e1 hst;rw[e1];have hil:i<τ.2.1.length:=by omega
  have hmS:de n.1 (bu τ i)=true:=f1.mks _ (aw [] hil);have F:=q2r h hv hmS ht;have hC:=q5b ht F;have hA:=q54 ht (by omega) F;have en:((n.1,n.2.1,n.2.2.1,n.2.2.2.1,()):c8)=n:=rfl;have hlenM:=f1.len;have hFd:=qr0 (τ.2.1,τ.2.2,τ.1,()) (ce (n.2.1.getD t ai.z) (bu τ i)) (by show τ.2.1.length≤_;omega) (fun x hx=>by have:=(ko.1 (f1.mks x hx)).1;omega);have eneg:decide (((-1):Int)<0)=true:=rfl;rcases ne n M i τ t with⟨g1,e⟩|⟨g1,g2,e⟩|⟨g1,g2,q,g3,e⟩|⟨g1,g2,g3,g4,e⟩|⟨g1,g2,g3,g4,e⟩
  ·rw[e];rw[show jl (n.2.1.getD t ai.z) (bu τ i)=false from g1]at hC;simp(disch:=omega)only[ip,be,j7,en,hC,Bool.not_false,aj,rs]
  ·rw[e];rw[show jl (n.2.1.getD t ai.z) (bu τ i)=true from g1]at hC;rw[show de n.1 (ce (n.2.1.getD t ai.z) (bu τ i))=false from g2]at hA;simp(disch:=omega)only[ip,be,j7,eb,mh,en,hC,hA,Bool.not_true,aj,rs]
  ·rw[e];rw[show jl (n.2.1.getD t ai.z) (bu τ i)=true from g1]at hC;rw[show de n.1 (ce (n.2.1.getD t ai.z) (bu τ i))=true from g2]at hA;rw[show qov (τ.2.1,τ.2.2,τ.1,()).1 (ce (n.2.1.getD t ai.z) (bu τ i))=(q:Int)from q4z g3]at hFd;simp(disch:=omega)only[ip,be,j7,eb,mh,fk,p3,en,hC,hA,hFd,Bool.not_true,aj,rs];rfl
  ·rw[e];rw[show jl (n.2.1.getD t ai.z) (bu τ i)=true from g1]at hC;rw[show de n.1 (ce (n.2.1.getD t ai.z) (bu τ i))=true from g2]at hA;rw[show qov (τ.2.1,τ.2.2,τ.1,()).1 (ce (n.2.1.getD t ai.z) (bu τ i))= -1 from qt2 g3]at hFd;have hd:decide ((τ.2.1.length:Int)<(M:Int))=true:=decide_eq_true (by omega);simp(disch:=omega)only[ip,be,j7,eb,mh,fk,p3,en,hC,hA,hFd,hd,Bool.not_true,aj,rs];rfl
  ·rw[e];rw[show jl (n.2.1.getD t ai.z) (bu τ i)=true from g1]at hC;rw[show de n.1 (ce (n.2.1.getD t ai.z) (bu τ i))=true from g2]at hA;rw[show qov (τ.2.1,τ.2.2,τ.1,()).1 (ce (n.2.1.getD t ai.z) (bu τ i))= -1 from qt2 g3]at hFd;have hd:decide ((τ.2.1.length:Int)<(M:Int))=false:=decide_eq_false (by omega);simp(disch:=omega)only[ip,be,j7,eb,mh,fk,p3,en,hC,hA,hFd,hd,Bool.not_true,aj,rs]
 ·simp(disch:=omega)only[ip,rs]
theorem jag{n:c8}(h:Small n)(hv:db n=true){M:Nat}(hM:M≤100):∀(f i:Nat) {σ:ox},SpI n M σ→M<f+i→σ.2.2.length≤100*i→
  kz (fun a=>mg (M:Int) n.1 n.2.1 n.2.2.1 n.2.2.2.1 [] [] false a.1 a.2.1 a.2.2.1 a.2.2.2 (fun a' =>some (.next a')) (fun e=>some (.done e)) (fun r=>some (.ret r))) (f+1) ((i:Int),σ.1,σ.2.1,σ.2.2)=
   some (.inl ((s3 n M f i σ).1,(s3 n M f i σ).2.1,(s3 n M f i σ).2.2)):=by
 intro f
 induction f with
 |zero=>
  intro i σ hs hf hm;have:=hs.len;rw[ba];simp(disch:=omega)only[mg,rs];rfl
 |succ f ih=>
  intro i σ hs hf hm;have hlen:=hs.len;rw[ba];by_cases hi:i<σ.2.1.length
  ·have e0:s3 n M (f+1) i σ=s3 n M f (i+1) (k9 n M i (List.range n.2.1.length) σ):=by
    show(if i<σ.2.1.length then _ else _)=_;rw[if_pos hi]
   have hL:=jaf h hv hM hs hi (by omega);have ihh:=ih (i+1) (pm (n:=n) (M:=M) (i:=i) (List.range n.2.1.length) hs).1 (by omega) (q8k h hs hm);rw[e0,←ihh];simp(disch:=omega)only[mg,hL,aj,rs];rfl
  ·have e0:s3 n M (f+1) i σ=σ:=by
    show(if i<σ.2.1.length then _ else _)=_;rw[if_neg hi]
   rw[e0];simp(disch:=omega)only[mg,rs];rfl
theorem qs2{n:c8}(h:Small n)(m:List Int)(hl:m.length≤1000000)(most:Int)(hmost:¬(100<most∧most≤2000)):qbv n m most=
  some (bif db n&&de n.1 m then(if most<1∨2000<most then(([],[],false,()),2)else(((spc n most.toNat m).2.1,(spc n most.toNat m).2.2,(spc n most.toNat m).1,()),0))else(([],[],false,()),1)):=by
 have hV:=qhg h;have hK:=wc n m hl;unfold qbv;cases hv:db n with
 |false=>
  rw[hv]at hV;simp(disch:=omega)only[hV,Bool.not_false,Bool.false_and,rs]
 |true=>
  rw[hv]at hV;cases hmk:de n.1 m with
  |false=>
   rw[hmk]at hK;simp(disch:=omega)only[hV,hK,Bool.not_true,Bool.not_false,Bool.and_false,rs]
  |true=>
   rw[hmk]at hK;by_cases h1:most<1
   ·rw[if_pos (.inl h1)];simp(disch:=omega)only[hV,hK,Bool.not_true,Bool.and_self,rs]
   ·by_cases h2:2000<most
    ·rw[if_pos (.inr h2)];simp(disch:=omega)only[hV,hK,Bool.not_true,Bool.and_self,rs]
    ·rw[if_neg (by omega)];obtain⟨M,rfl⟩:∃M:Nat,most=(M:Int):=⟨most.toNat,by omega⟩;have hL:=jag h hv (M:=M) (by omega) (M+1) 0 (qpm hmk (by omega)) (by omega) (Nat.zero_le _);have hL2:qfq (M:Int) n.1 n.2.1 n.2.2.1 n.2.2.2.1 [] [] false (0,true,[m],[])=some (.inl ((spc n M m).1,(spc n M m).2.1,(spc n M m).2.2)):=iy hL (bh (by omega));simp(disch:=omega)only[hV,hK,Bool.not_true,Bool.and_self,List.nil_append,hL2,rs]
end Go.Proofs.Ytokeielgplbdeaa
