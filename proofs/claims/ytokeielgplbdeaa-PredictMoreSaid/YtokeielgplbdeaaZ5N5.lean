/-
  Predict: the reference's search of a space.
-/
import Derived.Test.YtokeielgplbdeaaZ5N4
set_option linter.all false
namespace Go.Proofs.Ytokeielgplbdeaa
open Go.K Go.M
theorem q3t{σ:qq}{x:List Int}{k:Nat}(h:qug σ x=some k):qnr σ.2.1 x=(k:Int):=by
 unfold qnr qw1;rw[show kw (fun y:List Int=>decide (y=x)) σ.2.1=some k from h]
theorem qs2{σ:qq}{x:List Int}(h:qug σ x=none):qnr σ.2.1 x= -1:=by
 unfold qnr qw1;rw[show kw (fun y:List Int=>decide (y=x)) σ.2.1=none from h]
theorem q89{n:dr}(h:Small n)(hv:em n=true){M:Nat}(hM:M≤100){σ:qq}(hs:SpI n M σ){i:Nat}(hi:i<σ.2.1.length)(hmv:σ.2.2.length≤10000):
  qep (M:Int) (i:Int) n.1 n.2.1 n.2.2.1 n.2.2.2.1 [] [] false (0,σ.1,σ.2.1,σ.2.2)=
   some (.inl ((ln n M i (List.range n.2.1.length) σ).1,(ln n M i (List.range n.2.1.length) σ).2.1,(ln n M i (List.range n.2.1.length) σ).2.2)):=by
 have hT:=h.trans;have hN:=qg3 hv;refine jo (fun k:Nat=>((k:Int),(ln n M i (List.range k) σ).1,(ln n M i (List.range k) σ).2.1,(ln n M i (List.range k) σ).2.2)) n.2.1.length (bz (by omega)) _ (fun t ht=> ?_) ?_ _ (by rfl)
 ·obtain⟨f1,f2,f3,f4⟩:=qy (n:=n) (M:=M) (i:=i) (List.range t) hs;have e1:ln n M i (List.range (t+1)) σ=ud n M i (ln n M i (List.range t) σ) t:=by
   rw[List.range_succ];unfold ln;rw[List.foldl_append];rfl
  have hst:=f2 i hi;rw[List.length_range]at f4;generalize ln n M i (List.range t) σ=τ at f1 f2 f3 f4 e1 hst;rw[e1];have hil:i<τ.2.1.length:=by omega
  have hmS:dg n.1 (dj τ i)=true:=f1.mks _ (ba [] hil);have F:=q5p h hv hmS ht;have hC:=q34 ht F;have hA:=q4z ht (by omega) F;have en:((n.1,n.2.1,n.2.2.1,n.2.2.2.1,()):dr)=n:=rfl;have hlenM:=f1.len;have hFd:=qqw (τ.2.1,τ.2.2,τ.1,()) (da (n.2.1.getD t aj.z) (dj τ i)) (by show τ.2.1.length≤_;omega) (fun x hx=>by have:=(q9.1 (f1.mks x hx)).1;omega);have eneg:decide (((-1):Int)<0)=true:=rfl;rcases pb n M i τ t with⟨g1,e⟩|⟨g1,g2,e⟩|⟨g1,g2,q,g3,e⟩|⟨g1,g2,g3,g4,e⟩|⟨g1,g2,g3,g4,e⟩
  ·rw[e];rw[show kq (n.2.1.getD t aj.z) (dj τ i)=false from g1]at hC;simp(disch:=omega)only[io,bm,j6,en,hC,Bool.not_false,aq,rs]
  ·rw[e];rw[show kq (n.2.1.getD t aj.z) (dj τ i)=true from g1]at hC;rw[show dg n.1 (da (n.2.1.getD t aj.z) (dj τ i))=false from g2]at hA;simp(disch:=omega)only[io,bm,j6,eo,ma,en,hC,hA,Bool.not_true,aq,rs]
  ·rw[e];rw[show kq (n.2.1.getD t aj.z) (dj τ i)=true from g1]at hC;rw[show dg n.1 (da (n.2.1.getD t aj.z) (dj τ i))=true from g2]at hA;rw[show qnr (τ.2.1,τ.2.2,τ.1,()).1 (da (n.2.1.getD t aj.z) (dj τ i))=(q:Int)from q3t g3]at hFd;simp(disch:=omega)only[io,bm,j6,eo,ma,fm,po,en,hC,hA,hFd,Bool.not_true,aq,rs];rfl
  ·rw[e];rw[show kq (n.2.1.getD t aj.z) (dj τ i)=true from g1]at hC;rw[show dg n.1 (da (n.2.1.getD t aj.z) (dj τ i))=true from g2]at hA;rw[show qnr (τ.2.1,τ.2.2,τ.1,()).1 (da (n.2.1.getD t aj.z) (dj τ i))= -1 from qs2 g3]at hFd;have hd:decide ((τ.2.1.length:Int)<(M:Int))=true:=decide_eq_true (by omega);simp(disch:=omega)only[io,bm,j6,eo,ma,fm,po,en,hC,hA,hFd,hd,Bool.not_true,aq,rs];rfl
  ·rw[e];rw[show kq (n.2.1.getD t aj.z) (dj τ i)=true from g1]at hC;rw[show dg n.1 (da (n.2.1.getD t aj.z) (dj τ i))=true from g2]at hA;rw[show qnr (τ.2.1,τ.2.2,τ.1,()).1 (da (n.2.1.getD t aj.z) (dj τ i))= -1 from qs2 g3]at hFd;have hd:decide ((τ.2.1.length:Int)<(M:Int))=false:=decide_eq_false (by omega);simp(disch:=omega)only[io,bm,j6,eo,ma,fm,po,en,hC,hA,hFd,hd,Bool.not_true,aq,rs]
 ·simp(disch:=omega)only[io,rs]
theorem q9a{n:dr}(h:Small n)(hv:em n=true){M:Nat}(hM:M≤100):∀(f i:Nat) {σ:qq},SpI n M σ→M<f+i→σ.2.2.length≤100*i→
  lb (fun a=>l9 (M:Int) n.1 n.2.1 n.2.2.1 n.2.2.2.1 [] [] false a.1 a.2.1 a.2.2.1 a.2.2.2 (fun a' =>some (.next a')) (fun e=>some (.done e)) (fun r=>some (.ret r))) (f+1) ((i:Int),σ.1,σ.2.1,σ.2.2)=
   some (.inl ((vz n M f i σ).1,(vz n M f i σ).2.1,(vz n M f i σ).2.2)):=by
 intro f
 induction f with
 |zero=>
  intro i σ hs hf hm;have:=hs.len;rw[bh];simp(disch:=omega)only[l9,rs];rfl
 |succ f ih=>
  intro i σ hs hf hm;have hlen:=hs.len;rw[bh];by_cases hi:i<σ.2.1.length
  ·have e0:vz n M (f+1) i σ=vz n M f (i+1) (ln n M i (List.range n.2.1.length) σ):=by
    show(if i<σ.2.1.length then _ else _)=_;rw[if_pos hi]
   have hL:=q89 h hv hM hs hi (by omega);have ihh:=ih (i+1) (qy (n:=n) (M:=M) (i:=i) (List.range n.2.1.length) hs).1 (by omega) (q7a h hs hm);rw[e0,←ihh];simp(disch:=omega)only[l9,hL,aq,rs];rfl
  ·have e0:vz n M (f+1) i σ=σ:=by
    show(if i<σ.2.1.length then _ else _)=_;rw[if_neg hi]
   rw[e0];simp(disch:=omega)only[l9,rs];rfl
theorem qr3{n:dr}(h:Small n)(m:List Int)(hl:m.length≤1000000)(most:Int)(hmost:¬(100<most∧most≤2000)):qa3 n m most=
  some (bif em n&&dg n.1 m then(if most<1∨2000<most then(([],[],false,()),2)else(((spc n most.toNat m).2.1,(spc n most.toNat m).2.2,(spc n most.toNat m).1,()),0))else(([],[],false,()),1)):=by
 have hV:=z4 h;have hK:=qj n m hl;unfold qa3;cases hv:em n with
 |false=>
  rw[hv]at hV;simp(disch:=omega)only[hV,Bool.not_false,Bool.false_and,rs]
 |true=>
  rw[hv]at hV;cases hmk:dg n.1 m with
  |false=>
   rw[hmk]at hK;simp(disch:=omega)only[hV,hK,Bool.not_true,Bool.not_false,Bool.and_false,rs]
  |true=>
   rw[hmk]at hK;by_cases h1:most<1
   ·rw[if_pos (.inl h1)];simp(disch:=omega)only[hV,hK,Bool.not_true,Bool.and_self,rs]
   ·by_cases h2:2000<most
    ·rw[if_pos (.inr h2)];simp(disch:=omega)only[hV,hK,Bool.not_true,Bool.and_self,rs]
    ·rw[if_neg (by omega)];obtain⟨M,rfl⟩:∃M:Nat,most=(M:Int):=⟨most.toNat,by omega⟩;have hL:=q9a h hv (M:=M) (by omega) (M+1) 0 (qvv hmk (by omega)) (by omega) (Nat.zero_le _);have hL2:qeq (M:Int) n.1 n.2.1 n.2.2.1 n.2.2.2.1 [] [] false (0,true,[m],[])=some (.inl ((spc n M m).1,(spc n M m).2.1,(spc n M m).2.2)):=jm hL (bz (by omega));simp(disch:=omega)only[hV,hK,Bool.not_true,Bool.and_self,List.nil_append,hL2,rs]
end Go.Proofs.Ytokeielgplbdeaa
