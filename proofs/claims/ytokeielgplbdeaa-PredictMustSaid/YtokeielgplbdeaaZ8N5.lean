/-
  Predict: the reference's search of a space.
-/
import Derived.Test.YtokeielgplbdeaaZ8N4
set_option linter.all false
namespace Go.Proofs.Ytokeielgplbdeaa
open Go.K Go.M
theorem q7q{σ:pb}{x:List Int}{k:Nat}(h:qxu σ x=some k):qp7 σ.2.1 x=(k:Int):=by
 unfold qp7 q0m;rw[show k9 (fun y:List Int=>decide (y=x)) σ.2.1=some k from h]
theorem qv5{σ:pb}{x:List Int}(h:qxu σ x=none):qp7 σ.2.1 x= -1:=by
 unfold qp7 q0m;rw[show k9 (fun y:List Int=>decide (y=x)) σ.2.1=none from h]
theorem jde{n:cj}(h:Small n)(hv:b9 n=true){M:Nat}(hM:M≤100){σ:pb}(hs:SpI n M σ){i:Nat}(hi:i<σ.2.1.length)(hmv:σ.2.2.length≤10000):
  qfz (M:Int) (i:Int) n.1 n.2.1 n.2.2.1 n.2.2.2.1 [] [] false (0,σ.1,σ.2.1,σ.2.2)=
   some (.inl ((ll n M i (List.range n.2.1.length) σ).1,(ll n M i (List.range n.2.1.length) σ).2.1,(ll n M i (List.range n.2.1.length) σ).2.2)):=by
 have hT:=h.trans;have hN:=ru hv;refine jy (fun k:Nat=>((k:Int),(ll n M i (List.range k) σ).1,(ll n M i (List.range k) σ).2.1,(ll n M i (List.range k) σ).2.2)) n.2.1.length (bm (by omega)) _ (fun t ht=> ?_) ?_ _ (by rfl)
 ·obtain⟨f1,f2,f3,f4⟩:=pt (n:=n) (M:=M) (i:=i) (List.range t) hs;have e1:ll n M i (List.range (t+1)) σ=td n M i (ll n M i (List.range t) σ) t:=by
   rw[List.range_succ];unfold ll;rw[List.foldl_append];rfl
  have hst:=f2 i hi;rw[List.length_range]at f4;generalize ll n M i (List.range t) σ=τ at f1 f2 f3 f4 e1 hst;rw[e1];have hil:i<τ.2.1.length:=by omega
  have hmS:c8 n.1 (c7 τ i)=true:=f1.mks _ (aw [] hil);have F:=q9v h hv hmS ht;have hC:=q74 ht F;have hA:=q8z ht (by omega) F;have en:((n.1,n.2.1,n.2.2.1,n.2.2.2.1,()):cj)=n:=rfl;have hlenM:=f1.len;have hFd:=qtt (τ.2.1,τ.2.2,τ.1,()) (ca (n.2.1.getD t ag.z) (c7 τ i)) (by show τ.2.1.length≤_;omega) (fun x hx=>by have:=(ja.1 (f1.mks x hx)).1;omega);have eneg:decide (((-1):Int)<0)=true:=rfl;rcases nk n M i τ t with⟨g1,e⟩|⟨g1,g2,e⟩|⟨g1,g2,q,g3,e⟩|⟨g1,g2,g3,g4,e⟩|⟨g1,g2,g3,g4,e⟩
  ·rw[e];rw[show jm (n.2.1.getD t ag.z) (c7 τ i)=false from g1]at hC;simp(disch:=omega)only[ir,bi,kg,en,hC,Bool.not_false,al,rs]
  ·rw[e];rw[show jm (n.2.1.getD t ag.z) (c7 τ i)=true from g1]at hC;rw[show c8 n.1 (ca (n.2.1.getD t ag.z) (c7 τ i))=false from g2]at hA;simp(disch:=omega)only[ir,bi,kg,ed,mq,en,hC,hA,Bool.not_true,al,rs]
  ·rw[e];rw[show jm (n.2.1.getD t ag.z) (c7 τ i)=true from g1]at hC;rw[show c8 n.1 (ca (n.2.1.getD t ag.z) (c7 τ i))=true from g2]at hA;rw[show qp7 (τ.2.1,τ.2.2,τ.1,()).1 (ca (n.2.1.getD t ag.z) (c7 τ i))=(q:Int)from q7q g3]at hFd;simp(disch:=omega)only[ir,bi,kg,ed,mq,fm,p7,en,hC,hA,hFd,Bool.not_true,al,rs];rfl
  ·rw[e];rw[show jm (n.2.1.getD t ag.z) (c7 τ i)=true from g1]at hC;rw[show c8 n.1 (ca (n.2.1.getD t ag.z) (c7 τ i))=true from g2]at hA;rw[show qp7 (τ.2.1,τ.2.2,τ.1,()).1 (ca (n.2.1.getD t ag.z) (c7 τ i))= -1 from qv5 g3]at hFd;have hd:decide ((τ.2.1.length:Int)<(M:Int))=true:=decide_eq_true (by omega);simp(disch:=omega)only[ir,bi,kg,ed,mq,fm,p7,en,hC,hA,hFd,hd,Bool.not_true,al,rs];rfl
  ·rw[e];rw[show jm (n.2.1.getD t ag.z) (c7 τ i)=true from g1]at hC;rw[show c8 n.1 (ca (n.2.1.getD t ag.z) (c7 τ i))=true from g2]at hA;rw[show qp7 (τ.2.1,τ.2.2,τ.1,()).1 (ca (n.2.1.getD t ag.z) (c7 τ i))= -1 from qv5 g3]at hFd;have hd:decide ((τ.2.1.length:Int)<(M:Int))=false:=decide_eq_false (by omega);simp(disch:=omega)only[ir,bi,kg,ed,mq,fm,p7,en,hC,hA,hFd,hd,Bool.not_true,al,rs]
 ·simp(disch:=omega)only[ir,rs]
theorem jdf{n:cj}(h:Small n)(hv:b9 n=true){M:Nat}(hM:M≤100):∀(f i:Nat) {σ:pb},SpI n M σ→M<f+i→σ.2.2.length≤100*i→
  la (fun a=>mn (M:Int) n.1 n.2.1 n.2.2.1 n.2.2.2.1 [] [] false a.1 a.2.1 a.2.2.1 a.2.2.2 (fun a' =>some (.next a')) (fun e=>some (.done e)) (fun r=>some (.ret r))) (f+1) ((i:Int),σ.1,σ.2.1,σ.2.2)=
   some (.inl ((tn n M f i σ).1,(tn n M f i σ).2.1,(tn n M f i σ).2.2)):=by
 intro f
 induction f with
 |zero=>
  intro i σ hs hf hm;have:=hs.len;rw[a8];simp(disch:=omega)only[mn,rs];rfl
 |succ f ih=>
  intro i σ hs hf hm;have hlen:=hs.len;rw[a8];by_cases hi:i<σ.2.1.length
  ·have e0:tn n M (f+1) i σ=tn n M f (i+1) (ll n M i (List.range n.2.1.length) σ):=by
    show(if i<σ.2.1.length then _ else _)=_;rw[if_pos hi]
   have hL:=jde h hv hM hs hi (by omega);have ihh:=ih (i+1) (pt (n:=n) (M:=M) (i:=i) (List.range n.2.1.length) hs).1 (by omega) (jbm h hs hm);rw[e0,←ihh];simp(disch:=omega)only[mn,hL,al,rs];rfl
  ·have e0:tn n M (f+1) i σ=σ:=by
    show(if i<σ.2.1.length then _ else _)=_;rw[if_neg hi]
   rw[e0];simp(disch:=omega)only[mn,rs];rfl
theorem qu4{n:cj}(h:Small n)(m:List Int)(hl:m.length≤1000000)(most:Int)(hmost:¬(100<most∧most≤2000)):qb4 n m most=
  some (bif b9 n&&c8 n.1 m then(if most<1∨2000<most then(([],[],false,()),2)else(((spc n most.toNat m).2.1,(spc n most.toNat m).2.2,(spc n most.toNat m).1,()),0))else(([],[],false,()),1)):=by
 have hV:=qa6 h;have hK:=xa n m hl;unfold qb4;cases hv:b9 n with
 |false=>
  rw[hv]at hV;simp(disch:=omega)only[hV,Bool.not_false,Bool.false_and,rs]
 |true=>
  rw[hv]at hV;cases hmk:c8 n.1 m with
  |false=>
   rw[hmk]at hK;simp(disch:=omega)only[hV,hK,Bool.not_true,Bool.not_false,Bool.and_false,rs]
  |true=>
   rw[hmk]at hK;by_cases h1:most<1
   ·rw[if_pos (.inl h1)];simp(disch:=omega)only[hV,hK,Bool.not_true,Bool.and_self,rs]
   ·by_cases h2:2000<most
    ·rw[if_pos (.inr h2)];simp(disch:=omega)only[hV,hK,Bool.not_true,Bool.and_self,rs]
    ·rw[if_neg (by omega)];obtain⟨M,rfl⟩:∃M:Nat,most=(M:Int):=⟨most.toNat,by omega⟩;have hL:=jdf h hv (M:=M) (by omega) (M+1) 0 (qq8 hmk (by omega)) (by omega) (Nat.zero_le _);have hL2:qf0 (M:Int) n.1 n.2.1 n.2.2.1 n.2.2.2.1 [] [] false (0,true,[m],[])=some (.inl ((spc n M m).1,(spc n M m).2.1,(spc n M m).2.2)):=ib hL (bm (by omega));simp(disch:=omega)only[hV,hK,Bool.not_true,Bool.and_self,List.nil_append,hL2,rs]
end Go.Proofs.Ytokeielgplbdeaa
