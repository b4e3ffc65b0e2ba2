/-
  Freechoice: the reference's search of a space: what it finds, or too many moves.
-/
import Derived.Test.YtclbndfjhjladaaGreatZ7E1
set_option linter.all false
namespace Go.Proofs.YtclbndfjhjladaaGreat
open Go.K Go.M
def jv0{S E R:Type}(Inv:S→Prop)(μ:S→Nat)(post:E⊕R→Prop)(k:Nat):LR S E R→Prop
 | .next s=>Inv s∧μ s<k
 | .done e=>post (.inl e)
 | .ret r=>post (.inr r)
theorem qld{S E R:Type}{step:S→Option (LR S E R)}(Inv:S→Prop)(μ:S→Nat)(post:E⊕R→Prop)(s:S)(hs:Inv s)(hμ:μ s<many)(h:∀s,Inv s→∃x,step s=some x∧jv0 Inv μ post (μ s) x):∃o,ay step s=some o∧post o:=
 p6 Inv μ post s hs hμ fun s hs=>by
  obtain⟨x,hx,hp⟩:=h s hs;refine⟨x,hx,?_⟩;cases x<;>exact hp
abbrev ju7:gq×Int:=(([],[],false,()),13)
theorem j5x{n:dj}(h:Small n)(hv:n5 n=true){M:Nat}(hM:M≤1000){σ:Sig}(hs:SpI n M σ){i:Nat}(hi:i<σ.2.1.length)(hmv:σ.2.2.length≤20000):
  ∃o,q3y (M:Int) (i:Int) n.1 n.2.1 n.2.2.1 n.2.2.2.1 [] [] false (0,σ.1,σ.2.1,σ.2.2)=some o∧
   ((o= .inl ((sk n M i (List.range n.2.1.length) σ).1,(sk n M i (List.range n.2.1.length) σ).2.1,(sk n M i (List.range n.2.1.length) σ).2.2)∧(sk n M i (List.range n.2.1.length) σ).2.2.length≤20000)∨o= .inr ju7):=by
 have hT:=h.trans;have hN:=q2q hv;refine qld (step:=fun a:Int×Bool×List (List Int)×List a8=>ep (R:=LR (Int×Bool×List (List Int)×List a8) (Bool×List (List Int)×List a8) (gq×Int)) (M:Int) (i:Int) n.1 n.2.1 n.2.2.1 n.2.2.2.1 [] [] false a.1 a.2.1 a.2.2.1 a.2.2.2 (fun a' =>some (.next a')) (fun e=>some (.done e)) (fun r=>some (.ret r)))
  (fun a=>∃t:Nat,a=((t:Int),(sk n M i (List.range t) σ).1,(sk n M i (List.range t) σ).2.1,(sk n M i (List.range t) σ).2.2)∧t≤n.2.1.length∧(sk n M i (List.range t) σ).2.2.length≤20000) (fun a=>n.2.1.length-a.1.toNat)
  (fun o=>(o= .inl ((sk n M i (List.range n.2.1.length) σ).1,(sk n M i (List.range n.2.1.length) σ).2.1,(sk n M i (List.range n.2.1.length) σ).2.2)∧(sk n M i (List.range n.2.1.length) σ).2.2.length≤20000)∨o= .inr ju7)
  _ ⟨0,rfl,Nat.zero_le _,hmv⟩ (by show n.2.1.length-(0:Int).toNat<many;have:=fg (n:=n.2.1.length) (by omega);omega) ?_
 rintro a ⟨t,rfl,ht0,hlen⟩;by_cases ht:t<n.2.1.length
 ·obtain⟨f1,f2,f3,f4⟩:=q2f (n:=n) (M:=M) (i:=i) (List.range t) hs;have e1:sk n M i (List.range (t+1)) σ=qto n M i (sk n M i (List.range t) σ) t:=by
   rw[List.range_succ];unfold sk;rw[List.foldl_append];rfl
  have hst:=f2 i hi;have fin:∀τ,sk n M i (List.range (t+1)) σ=τ→τ.2.2.length≤20000→jv0 (fun a:Int×Bool×List (List Int)×List a8=>∃t:Nat,a=((t:Int),(sk n M i (List.range t) σ).1,(sk n M i (List.range t) σ).2.1,(sk n M i (List.range t) σ).2.2)∧t≤n.2.1.length∧(sk n M i (List.range t) σ).2.2.length≤20000) (fun a=>n.2.1.length-a.1.toNat)
    (fun o:(Bool×List (List Int)×List a8)⊕(gq×Int)=>(o= .inl ((sk n M i (List.range n.2.1.length) σ).1,(sk n M i (List.range n.2.1.length) σ).2.1,(sk n M i (List.range n.2.1.length) σ).2.2)∧(sk n M i (List.range n.2.1.length) σ).2.2.length≤20000)∨o= .inr ju7) (n.2.1.length-(t:Int).toNat) (.next (((t+1:Nat):Int),τ.1,τ.2.1,τ.2.2)):=fun τ e hl=>by
   refine⟨⟨t+1,by rw[e],by omega,by rw[e];exact hl⟩,?_⟩;show n.2.1.length-((t+1:Nat):Int).toNat<n.2.1.length-(t:Int).toNat;omega
  have bad:jv0 (fun a:Int×Bool×List (List Int)×List a8=>∃t:Nat,a=((t:Int),(sk n M i (List.range t) σ).1,(sk n M i (List.range t) σ).2.1,(sk n M i (List.range t) σ).2.2)∧t≤n.2.1.length∧(sk n M i (List.range t) σ).2.2.length≤20000) (fun a=>n.2.1.length-a.1.toNat)
    (fun o:(Bool×List (List Int)×List a8)⊕(gq×Int)=>(o= .inl ((sk n M i (List.range n.2.1.length) σ).1,(sk n M i (List.range n.2.1.length) σ).2.1,(sk n M i (List.range n.2.1.length) σ).2.2)∧(sk n M i (List.range n.2.1.length) σ).2.2.length≤20000)∨o= .inr ju7) (n.2.1.length-(t:Int).toNat) (.ret ju7):= .inr rfl
  generalize sk n M i (List.range t) σ=τ at f1 f2 f3 f4 e1 hst hlen;have fin:=fun τ' (e:qto n M i τ t=τ')=>fin τ' (e1.trans e)
  have hil:i<τ.2.1.length:=by omega
  have hmS:l4 n.1 (gg τ i)=true:=f1.mks _ (bm [] hil);have F:=j2y h hv hmS ht;have hC:=j1h ht F;have hA:=j14 ht (by omega) F;have en:((n.1,n.2.1,n.2.2.1,n.2.2.2.1,()):dj)=n:=rfl;have hlenM:=f1.len;have hFd:=jxl (τ.2.1,τ.2.2,τ.1,()) (l3 (n.2.1.getD t ab.z) (gg τ i)) (by show τ.2.1.length≤_;omega) (fun x hx=>by have:=(qfi.1 (f1.mks x hx)).1;omega);show∃x,ep (M:Int) (i:Int) n.1 n.2.1 n.2.2.1 n.2.2.2.1 [] [] false (t:Int) τ.1 τ.2.1 τ.2.2 _ _ _=some x∧_;rcases qsi n M i τ t with⟨g1,e⟩|⟨g1,g2,e⟩|⟨g1,g2,q,g3,e⟩|⟨g1,g2,g3,g4,e⟩|⟨g1,g2,g3,g4,e⟩
  ·refine⟨_,?_,fin _ e hlen⟩;rw[show qk (n.2.1.getD t ab.z) (gg τ i)=false from g1]at hC;simp(disch:=omega)only[ep,b9,i7,en,hC,Bool.not_false,ar,rs]
  ·refine⟨_,?_,fin _ e hlen⟩;rw[show qk (n.2.1.getD t ab.z) (gg τ i)=true from g1]at hC;rw[show l4 n.1 (l3 (n.2.1.getD t ab.z) (gg τ i))=false from g2]at hA;simp(disch:=omega)only[ep,b9,i7,fj,kw,en,hC,hA,Bool.not_true,ar,rs]
  ·rw[show qk (n.2.1.getD t ab.z) (gg τ i)=true from g1]at hC;rw[show l4 n.1 (l3 (n.2.1.getD t ab.z) (gg τ i))=true from g2]at hA;rw[show jux (τ.2.1,τ.2.2,τ.1,()).1 (l3 (n.2.1.getD t ab.z) (gg τ i))=(q:Int)from j03 g3]at hFd;by_cases hl:(τ.2.2.length:Int)=20000
   ·refine⟨_,?_,bad⟩;have hd2:decide ((τ.2.2.length:Int)=20000)=true:=decide_eq_true hl;simp(disch:=omega)only[ep,b9,i7,fj,kw,ge,nw,en,hC,hA,hFd,hd2,Bool.not_true,ar,rs]
   ·refine⟨_,?_,fin _ e (by show(τ.2.2++[mvA i q t]).length≤20000;rw[List.length_append];show _+1≤20000;omega)⟩;have hd2:decide ((τ.2.2.length:Int)=20000)=false:=decide_eq_false hl;simp(disch:=omega)only[ep,b9,i7,fj,kw,ge,nw,en,hC,hA,hFd,hd2,Bool.not_true,ar,rs];rfl
  ·rw[show qk (n.2.1.getD t ab.z) (gg τ i)=true from g1]at hC;rw[show l4 n.1 (l3 (n.2.1.getD t ab.z) (gg τ i))=true from g2]at hA;rw[show jux (τ.2.1,τ.2.2,τ.1,()).1 (l3 (n.2.1.getD t ab.z) (gg τ i))= -1 from jqd g3]at hFd;have hd:decide ((τ.2.1.length:Int)<(M:Int))=true:=decide_eq_true (by omega);by_cases hl:(τ.2.2.length:Int)=20000
   ·refine⟨_,?_,bad⟩;have hd2:decide ((τ.2.2.length:Int)=20000)=true:=decide_eq_true hl;simp(disch:=omega)only[ep,b9,i7,fj,kw,ge,nw,en,hC,hA,hFd,hd,hd2,Bool.not_true,ar,rs]
   ·refine⟨_,?_,fin _ e (by show(τ.2.2++[mvA i τ.2.1.length t]).length≤20000;rw[List.length_append];show _+1≤20000;omega)⟩;have hd2:decide ((τ.2.2.length:Int)=20000)=false:=decide_eq_false hl;simp(disch:=omega)only[ep,b9,i7,fj,kw,ge,nw,en,hC,hA,hFd,hd,hd2,Bool.not_true,ar,rs];rfl
  ·refine⟨_,?_,fin _ e hlen⟩;rw[show qk (n.2.1.getD t ab.z) (gg τ i)=true from g1]at hC;rw[show l4 n.1 (l3 (n.2.1.getD t ab.z) (gg τ i))=true from g2]at hA;rw[show jux (τ.2.1,τ.2.2,τ.1,()).1 (l3 (n.2.1.getD t ab.z) (gg τ i))= -1 from jqd g3]at hFd;have hd:decide ((τ.2.1.length:Int)<(M:Int))=false:=decide_eq_false (by omega);simp(disch:=omega)only[ep,b9,i7,fj,kw,ge,nw,en,hC,hA,hFd,hd,Bool.not_true,ar,rs]
 ·have e:t=n.2.1.length:=by omega
  subst e;refine⟨.done _,?_, .inl ⟨rfl,hlen⟩⟩;simp(disch:=omega)only[ep,rs]
theorem j5y{n:dj}(h:Small n)(hv:n5 n=true){M:Nat}(hM:M≤1000):∀(f i:Nat) {σ:Sig},SpI n M σ→M<f+i→σ.2.2.length≤20000→
  ∃o,q8c (fun a=>nv (M:Int) n.1 n.2.1 n.2.2.1 n.2.2.2.1 [] [] false a.1 a.2.1 a.2.2.1 a.2.2.2 (fun a' =>some (.next a')) (fun e=>some (.done e)) (fun r=>some (.ret r))) (f+1) ((i:Int),σ.1,σ.2.1,σ.2.2)=some o∧
   (o= .inl ((q46 n M f i σ).1,(q46 n M f i σ).2.1,(q46 n M f i σ).2.2)∨o= .inr ju7):=by
 intro f
 induction f with
 |zero=>
  intro i σ hs hf hm;have:=hs.len;refine⟨.inl (σ.1,σ.2.1,σ.2.2),?_, .inl rfl⟩;rw[nu];simp(disch:=omega)only[nv,rs];rfl
 |succ f ih=>
  intro i σ hs hf hm;have hlen:=hs.len;rw[nu];by_cases hi:i<σ.2.1.length
  ·have e0:q46 n M (f+1) i σ=q46 n M f (i+1) (sk n M i (List.range n.2.1.length) σ):=by
    show(if i<σ.2.1.length then _ else _)=_;rw[if_pos hi]
   obtain⟨o,hL,hp⟩:=j5x h hv hM hs hi hm;rcases hp with⟨rfl,hl⟩|rfl
   ·obtain⟨o,ihh,hp⟩:=ih (i+1) (q2f (n:=n) (M:=M) (i:=i) (List.range n.2.1.length) hs).1 (by omega) hl;refine⟨o,?_,by rw[e0];exact hp⟩;rw[←ihh];simp(disch:=omega)only[nv,hL,ar,rs];rfl
   ·refine⟨.inr ju7,?_, .inr rfl⟩;simp(disch:=omega)only[nv,hL,ar,rs];rfl
  ·have e0:q46 n M (f+1) i σ=σ:=by
    show(if i<σ.2.1.length then _ else _)=_;rw[if_neg hi]
   refine⟨.inl (σ.1,σ.2.1,σ.2.2),?_, .inl (by rw[e0])⟩;simp(disch:=omega)only[nv,rs];rfl
theorem jwp{n:dj}(h:Small n){m:List Int}(hv:n5 n=true)(hmk:l4 n.1 m=true):qg4 n m 400=some (((spc n 400 m).2.1,(spc n 400 m).2.2,(spc n 400 m).1,()),0)∨qg4 n m 400=some ju7:=by
 have hml:=(qfi.1 hmk).1;have hN:=q2q hv;have hV:=jim h;have hK:=qx5 n m (by omega);rw[hv]at hV;rw[hmk]at hK;obtain⟨o,hL,hp⟩:=j5y h hv (M:=400) (by omega) (400+1) 0 (jzm hmk (by omega)) (by omega) (Nat.zero_le _);have hL2:qsu ((400:Nat):Int) n.1 n.2.1 n.2.2.1 n.2.2.2.1 [] [] false (0,true,[m],[])=some o:=j54 hL (fg (by omega));have hL2:qsu 400 n.1 n.2.1 n.2.2.1 n.2.2.2.1 [] [] false (0,true,[m],[])=some o:=hL2;unfold qg4;rcases hp with rfl|rfl
 ·refine .inl ?_;simp(disch:=omega)only[hV,hK,Bool.not_true,List.nil_append,hL2,rs];rfl
 ·refine .inr ?_;simp(disch:=omega)only[hV,hK,Bool.not_true,List.nil_append,hL2,rs]
end Go.Proofs.YtclbndfjhjladaaGreat
