/-
  Predict: longer times leave no less.
-/
import Derived.Test.YtokeielgplbdeaaZ5E1
set_option linter.all false
namespace Go.Proofs.Ytokeielgplbdeaa
open Go.K Go.M
def qd9(B:af)(limit:Int):Int:=bif !B.2.2.1&&decide (B.2.1≤limit)then 0 else bif decide (limit<B.1)then 2 else 1
theorem qxv{n:dr}(h:Small n){m:List Int}(hl:m.length≤1000){ts:List af}(hts:ts.length≤1000){most:Int}(limit:Int)(hv:em n=true)(hm:dg n.1 m=true)(ht:cq ts n.2.1.length=true){B:af}(hB:bi n m ts most=some (B,0)):
  jr n m ts limit most=some (if limit<0∨1099511627776<limit then(0,2)else(qd9 B limit,0)):=by
 have hE:=oq h m (by omega);have hT:=qmd (n:=n) (ts:=ts) (by omega);rw[hv,hm]at hE;rw[ht]at hT;unfold jr;by_cases hl0:limit<0
 ·rw[if_pos (.inl hl0)];simp(disch:=omega)only[hE,hT,Bool.true_and,Bool.not_true,rs]
 ·by_cases hl1:1099511627776<limit
  ·rw[if_pos (.inr hl1)];simp(disch:=omega)only[hE,hT,Bool.true_and,Bool.not_true,rs]
  ·rw[if_neg (by omega)];obtain⟨bl,bg,bo,⟨⟩⟩:=B;unfold qd9;cases bo with
   |true=>
    by_cases hlt:limit<bl
    ·simp(disch:=omega)only[hE,hT,hB,Bool.true_and,Bool.not_true,Bool.false_and,rs]
    ·simp(disch:=omega)only[hE,hT,hB,Bool.true_and,Bool.not_true,Bool.false_and,rs]
   |false=>
    by_cases hgt:bg≤limit
    ·simp(disch:=omega)only[hE,hT,hB,Bool.true_and,Bool.not_true,Bool.not_false,rs]
    ·by_cases hlt:limit<bl
     ·simp(disch:=omega)only[hE,hT,hB,Bool.true_and,Bool.not_true,Bool.not_false,rs]
     ·simp(disch:=omega)only[hE,hT,hB,Bool.true_and,Bool.not_true,Bool.not_false,rs]
structure Longer (T : Nat) (ts ts' : List af) : Prop where
 l : ∀ t, t < T → (ts.getD t af.z).1 ≤ (ts'.getD t af.z).1
 g : ∀ t, t < T → (ts.getD t af.z).2.1 ≤ (ts'.getD t af.z).2.1
 o : ∀ t, t < T → opT ts' t = opT ts t
theorem q0q{w w' :Nat→Int}:∀{l:List Eg},(∀e∈l,w e.2.2≤w' e.2.2)→wtL w l≤wtL w' l
 |[],_=>Int.le_refl _
 |e::l,h=>by
  rw[pc,pc];have h1:=h e List.mem_cons_self;have h2:=q0q (l:=l) fun e' he' =>h e' (List.mem_cons_of_mem _ he')
  omega
section
variable {n : dr} {m : List Int} {M : Nat} {σ : qq} {N g : Nat} {nE : List Eg} {c : Mk} {ts ts' : List af}
theorem jf6{d:pd}{TT:Nat}{v:ve}(hd:DistOK σ N g nE c TT ts false d)(h0:d 0=some v){l:List Eg}(hl:IsW (fun e=>e∈nE) 0 l g):v.1≤wtL (j9 ts false) l:=by
 obtain⟨v',h1,h2⟩:=hd.opt 0 _ (zi hl);rw[h0]at h1;cases h1;unfold leV sg at h2;simp at h2;omega
theorem jf5{d:pd}{TT:Nat}{v:ve}(hd:DistOK σ N g nE c TT ts true d)(h0:d 0=some v){l:List Eg}(hl:IsW (fun e=>e∈nE) 0 l g):wtL (j9 ts true) l≤v.1:=by
 obtain⟨v',h1,h2⟩:=hd.opt 0 _ (zi hl);rw[h0]at h1;cases h1;unfold leV sg at h2;simp at h2;omega
theorem q7j{d:pd}{TT:Nat}{v:ve}{sl:Bool}(hd:DistOK σ N g nE c TT ts sl d)(h0:d 0=some v):∃l,IsW (fun e=>e∈nE) 0 l g∧v.1=wtL (j9 ts sl) l:=by
 obtain⟨l,h1,h2⟩:=qd2 (hd.snd 0 v h0);exact⟨l,h1,congrArg (fun x:ve=>x.1) h2⟩
theorem q90(h:GG n m M σ N g nE c)(hL:Longer n.2.1.length ts ts')(ho:Op ts (qr c nE)):Op ts' (qr c nE):=by
 obtain⟨e,h1,h2,h3⟩:=ho;have ht:=(h.gl'.good e h1).t;refine⟨e,h1,h2,h3.imp (fun h4=>(hL.o _ ht).trans h4) fun h4=>⟨?_,h4.2⟩⟩;have:=hL.g _ ht;have h5:0<grT ts e.2.2:=h4.1;unfold grT at h5⊢;omega
structure MoreOK (a b : af) : Prop where
 l : a.1 ≤ b.1
 o : a.2.2.1 = true → b.2.2.1 = true
 g : a.2.2.1 = false → b.2.2.1 = false → a.2.1 ≤ b.2.1
theorem q9s(h:GG n m M σ N g nE c)(hL:Longer n.2.1.length ts ts'){a b:af}(ha:LeftOK σ N g nE c n.2.1.length ts a)(hb:LeftOK σ N g nE c n.2.1.length ts' b):MoreOK a b:=by
 have hf:∀{d d' :pd} {v v' :ve},DistOK σ N g nE c n.2.1.length ts false d→d 0=some v→DistOK σ N g nE c n.2.1.length ts' false d' →d' 0=some v' →v.1≤v'.1:=fun hd h0 hd' h0' =>by
  obtain⟨l,h1,h2⟩:=q7j hd' h0';have h3:=jf6 hd h0 h1;have h4:wtL (j9 ts false) l≤wtL (j9 ts' false) l:=q0q fun e he=>hL.l _ (h.good e (qdb h1 e he).1).t
  omega
 cases ha with
 |opn dF v hF h0 ho h1 h2=>
  cases hb with
  |opn dF' v' hF' h0' ho' h1' h2' =>exact⟨hf hF h0 hF' h0',fun _=>rfl,(fun e=>by cases e)⟩
  |cls dF' dS' v' u' hF' h0' ho' h1' h2' hS' h3' =>exact absurd (q90 h hL ho) ho'
 |cls dF dS v u hF h0 ho h1 h2 hS h3=>
  cases hb with
  |opn dF' v' hF' h0' ho' h1' h2' =>exact⟨hf hF h0 hF' h0',fun _=>rfl,(fun _ e=>by cases e)⟩
  |cls dF' dS' v' u' hF' h0' ho' h1' h2' hS' h3' =>
   refine⟨hf hF h0 hF' h0',(fun e=>by cases e),fun _ _=> ?_⟩;obtain⟨l,g1,g2⟩:=q7j hS h3;have g3:=jf5 hS' h3' g1;have g4:wtL (j9 ts true) l≤wtL (j9 ts' true) l:=q0q fun e he=>hL.g _ (h.good e (qdb g1 e he).1).t
   show u.1≤u'.1;omega
end
theorem q3x{a b:af}(h:MoreOK a b)(limit:Int):qd9 a limit≤qd9 b limit:=by
 obtain⟨al,ag,ao,⟨⟩⟩:=a;obtain⟨bl,bg,bo,⟨⟩⟩:=b;have h1:al≤bl:=h.l;have h2:ao=true→bo=true:=h.o;have h3:ao=false→bo=false→ag≤bg:=h.g;unfold qd9;cases ao<;>cases bo<;>simp at h2 h3⊢
 ·by_cases c1:ag≤limit
  ·rw[decide_eq_true c1];by_cases c2:bg≤limit
   ·rw[decide_eq_true c2];simp
   ·rw[decide_eq_false c2];by_cases c3:limit<bl
    ·rw[decide_eq_true c3];simp
    ·rw[decide_eq_false c3];simp
  ·rw[decide_eq_false c1];have c2:¬bg≤limit:=by omega
   rw[decide_eq_false c2];by_cases c3:limit<bl
   ·rw[decide_eq_true c3];by_cases c4:limit<al
    ·rw[decide_eq_true c4];simp
    ·rw[decide_eq_false c4];simp
   ·have c4:¬limit<al:=by omega
    rw[decide_eq_false c3,decide_eq_false c4];simp
 ·by_cases c1:ag≤limit
  ·rw[decide_eq_true c1];by_cases c3:limit<bl
   ·rw[decide_eq_true c3];simp
   ·rw[decide_eq_false c3];simp
  ·rw[decide_eq_false c1];by_cases c3:limit<bl
   ·rw[decide_eq_true c3];by_cases c4:limit<al
    ·rw[decide_eq_true c4];simp
    ·rw[decide_eq_false c4];simp
   ·have c4:¬limit<al:=by omega
    rw[decide_eq_false c3,decide_eq_false c4];simp
 ·by_cases c3:limit<bl
  ·rw[decide_eq_true c3];by_cases c4:limit<al
   ·rw[decide_eq_true c4];simp
   ·rw[decide_eq_false c4];simp
  ·have c4:¬limit<al:=by omega
   rw[decide_eq_false c3,decide_eq_false c4];simp
theorem jgf{n:dr}(h:Small n)(htr:n.2.1.length≤20){m:List Int}(hl:m.length≤1000){ts:List af}(hts:ts.length≤1000){most:Int}(hmost:¬(100<most∧most≤2000))(limit:Int):
  (∃B e,e≠0∧bi n m ts most=some (B,e))∨
  ∃a,bi n m ts most=some (a,0)∧cq ts n.2.1.length=true∧jr n m ts limit most=some (if limit<0∨1099511627776<limit then(0,2)else(qd9 a limit,0))∧
   ∀ts' :List af,ts'.length≤1000→cq ts' n.2.1.length=true→Longer n.2.1.length ts ts' →∃b,bi n m ts' most=some (b,0)∧jr n m ts' limit most=some (if limit<0∨1099511627776<limit then(0,2)else(qd9 b limit,0))∧MoreOK a b:=by
 have hg:=qjv h htr hl hts most;cases ht:cq ts n.2.1.length with
 |false=>
  rw[ht]at hg;exact .inl ⟨_,1,by decide,yw (by decide) hg⟩
 |true=>
  rw[ht]at hg;have hg:bp n m ts most=ay n m most:=hg;cases jjd h htr hl hmost with
  |err e he h1 h2=>exact .inl ⟨_,e,he,yw he (hg.trans h1)⟩
  |none σ N g nE c hG hc h1 hr h2=>exact .inl ⟨_,10,by decide,qem (hg.trans h1) hr⟩
  |ok σ N g nE c hG hc hv hm h1 hr h2=>
   obtain⟨a,ha⟩:=qoc hG hc ht;have hra:=qa2 hG ht (hg.trans h1) hr ha;refine .inr ⟨a,hra,rfl,qxv h hl hts limit hv hm ht hra,fun ts' hts' ht' hL=> ?_⟩;have hg' :=qjv h htr hl hts' most;rw[ht']at hg';have hg' :bp n m ts' most=ay n m most:=hg';obtain⟨b,hb⟩:=qoc hG hc ht';have hrb:=qa2 hG ht' (hg'.trans h1) hr hb;exact⟨b,hrb,qxv h hl hts' limit hv hm ht' hrb,q9s hG hL ha hb⟩
end Go.Proofs.Ytokeielgplbdeaa
