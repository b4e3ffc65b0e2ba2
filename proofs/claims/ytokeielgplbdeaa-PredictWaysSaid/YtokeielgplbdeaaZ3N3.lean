/-
  Predict: the search of a net's space, in plain Lean.
-/
import Derived.Test.YtokeielgplbdeaaZ3N2
set_option linter.all false
namespace Go.Proofs.Ytokeielgplbdeaa
open Go.K Go.M
abbrev q4:Type:=Bool×List (List Int)×List ao
abbrev dg(σ:q4)(i:Nat):List Int:=σ.2.1.getD i []
abbrev trA(n:cx)(t:Nat):ag:=n.2.1.getD t ag.z
def mvA(i k t:Nat):ao:=((i:Int),(k:Int),(t:Int),())
def qzo(σ:q4)(x:List Int):Option Nat:=kl (fun y:List Int=>decide (y=x)) σ.2.1
def uo(n:cx)(M i:Nat)(σ:q4)(t:Nat):q4:=
 bif k6 (trA n t) (dg σ i)then
  bif di n.1 (c6 (trA n t) (dg σ i))then
   match qzo σ (c6 (trA n t) (dg σ i))with
   |some k=>(σ.1,σ.2.1,σ.2.2++[mvA i k t])
   |none=>if σ.2.1.length<M then(σ.1,σ.2.1++[c6 (trA n t) (dg σ i)],σ.2.2++[mvA i σ.2.1.length t])else(false,σ.2.1,σ.2.2)
  else(false,σ.2.1,σ.2.2)
 else σ
abbrev lm(n:cx)(M i:Nat)(l:List Nat)(σ:q4):q4:=l.foldl (uo n M i) σ
def we(n:cx)(M:Nat):Nat→Nat→q4→q4
 |0,_,σ=>σ
 |f+1,i,σ=>if i<σ.2.1.length then we n M f (i+1) (lm n M i (List.range n.2.1.length) σ)else σ
theorem ph(n:cx)(M i:Nat)(σ:q4)(t:Nat):
  (k6 (trA n t) (dg σ i)=false∧uo n M i σ t=σ)∨
  (k6 (trA n t) (dg σ i)=true∧di n.1 (c6 (trA n t) (dg σ i))=false∧uo n M i σ t=(false,σ.2.1,σ.2.2))∨
  (k6 (trA n t) (dg σ i)=true∧di n.1 (c6 (trA n t) (dg σ i))=true∧∃k,qzo σ (c6 (trA n t) (dg σ i))=some k∧uo n M i σ t=(σ.1,σ.2.1,σ.2.2++[mvA i k t]))∨
  (k6 (trA n t) (dg σ i)=true∧di n.1 (c6 (trA n t) (dg σ i))=true∧qzo σ (c6 (trA n t) (dg σ i))=none∧σ.2.1.length<M∧uo n M i σ t=(σ.1,σ.2.1++[c6 (trA n t) (dg σ i)],σ.2.2++[mvA i σ.2.1.length t]))∨
  (k6 (trA n t) (dg σ i)=true∧di n.1 (c6 (trA n t) (dg σ i))=true∧qzo σ (c6 (trA n t) (dg σ i))=none∧¬σ.2.1.length<M∧uo n M i σ t=(false,σ.2.1,σ.2.2)):=by
 unfold uo;cases h1:k6 (trA n t) (dg σ i)with
 |false=>exact .inl ⟨rfl,rfl⟩
 |true=>
  cases h2:di n.1 (c6 (trA n t) (dg σ i))with
  |false=>exact .inr (.inl ⟨rfl,rfl,rfl⟩)
  |true=>
   cases h3:qzo σ (c6 (trA n t) (dg σ i))with
   |some k=>exact .inr (.inr (.inl ⟨rfl,rfl,k,rfl,rfl⟩))
   |none=>
    by_cases h4:σ.2.1.length<M
    ·refine .inr (.inr (.inr (.inl ⟨rfl,rfl,rfl,h4,?_⟩)));simp only[cond_true,if_pos h4]
    ·refine .inr (.inr (.inr (.inr ⟨rfl,rfl,rfl,h4,?_⟩)));simp only[cond_true,if_neg h4]
theorem jbk{σ:q4}{x:List Int}{k:Nat}(h:qzo σ x=some k):k<σ.2.1.length∧dg σ k=x:=by
 obtain⟨h1,h2,_⟩:=us [] h;exact⟨h1,of_decide_eq_true h2⟩
theorem jbj{σ:q4}{x:List Int}(h:qzo σ x=none):x∉σ.2.1:=fun hx=>by
 have:=qb8 h x hx;exact absurd rfl (of_decide_eq_false this)
theorem qmh{α:Type}(l:List α)(x d:α)(i:Nat)(h:i<l.length):(l++[x]).getD i d=l.getD i d:=by
 rw[List.getD_eq_getElem?_getD,List.getD_eq_getElem?_getD,List.getElem?_append_left h]
theorem qx3{α:Type}(l:List α)(x d:α):(l++[x]).getD l.length d=x:=by
 rw[List.getD_eq_getElem?_getD,List.getElem?_append_right (Nat.le_refl _),Nat.sub_self];rfl
structure SpI (n : cx) (M : Nat) (σ : q4) : Prop where
 mks : ∀ x ∈ σ.2.1, di n.1 x = true
 nd : σ.2.1.Nodup
 len : σ.2.1.length ≤ M
 pos : 0 < σ.2.1.length
theorem SpI.flag{n:cx}{M:Nat}{σ:q4}(h:SpI n M σ)(b:Bool)(mv:List ao):SpI n M (b,σ.2.1,mv):=⟨h.mks,h.nd,h.len,h.pos⟩
theorem SpI.push{n:cx}{M:Nat}{σ:q4}(h:SpI n M σ)(b:Bool)(mv:List ao){x:List Int}(hx:di n.1 x=true)(hn:x∉σ.2.1)(hl:σ.2.1.length<M):SpI n M (b,σ.2.1++[x],mv):=by
 refine⟨fun y hy=> ?_,?_,by simp;omega,by simp⟩
 ·rcases List.mem_append.1 hy with hy|hy
  ·exact h.mks y hy
  ·rw[List.mem_singleton.1 hy];exact hx
 ·exact List.nodup_append.2 ⟨h.nd,by simp,fun a ha b hb=>by rw[List.mem_singleton.1 hb];exact fun e=>hn (e▸ha)⟩
theorem SpI.step{n:cx}{M i:Nat}{σ:q4}(h:SpI n M σ)(t:Nat):SpI n M (uo n M i σ t):=by
 rcases ph n M i σ t with⟨_,e⟩|⟨_,_,e⟩|⟨_,_,k,_,e⟩|⟨_,h2,h3,h4,e⟩|⟨_,_,_,_,e⟩<;>rw[e]
 ·exact h
 ·exact h.flag _ _
 ·exact h.flag _ _
 ·exact h.push _ _ h2 (jbj h3) h4
 ·exact h.flag _ _
theorem qoa{n:cx}{M i:Nat}{σ:q4}{j:Nat}(hj:j<σ.2.1.length)(t:Nat):dg (uo n M i σ t) j=dg σ j∧σ.2.1.length≤(uo n M i σ t).2.1.length:=by
 rcases ph n M i σ t with⟨_,e⟩|⟨_,_,e⟩|⟨_,_,k,_,e⟩|⟨_,h2,h3,h4,e⟩|⟨_,_,_,_,e⟩<;>rw[e]
 ·exact⟨rfl,Nat.le_refl _⟩
 ·exact⟨rfl,Nat.le_refl _⟩
 ·exact⟨rfl,Nat.le_refl _⟩
 ·exact⟨qmh _ _ _ _ hj,by simp⟩
 ·exact⟨rfl,Nat.le_refl _⟩
theorem jde(n:cx)(M i:Nat)(σ:q4)(t:Nat):(uo n M i σ t).2.2.length≤σ.2.2.length+1:=by
 rcases ph n M i σ t with⟨_,e⟩|⟨_,_,e⟩|⟨_,_,k,_,e⟩|⟨_,h2,h3,h4,e⟩|⟨_,_,_,_,e⟩<;>rw[e]<;>simp
theorem qy{n:cx}{M i:Nat}:∀(l:List Nat) {σ:q4},SpI n M σ→SpI n M (lm n M i l σ)∧(∀j,j<σ.2.1.length→dg (lm n M i l σ) j=dg σ j)∧σ.2.1.length≤(lm n M i l σ).2.1.length∧(lm n M i l σ).2.2.length≤σ.2.2.length+l.length
 |[],σ,h=>⟨h,fun _ _=>rfl,Nat.le_refl _,Nat.le_refl _⟩
 |t::l,σ,h=>by
  obtain⟨h1,h2,h3,h4⟩:=qy (n:=n) (M:=M) (i:=i) l (h.step (i:=i) t);have h5:=qoa (n:=n) (M:=M) (i:=i) (σ:=σ) h.pos t;have h6:=jde n M i σ t;refine⟨h1,fun j hj=>(h2 j (by omega)).trans (qoa hj t).1,Nat.le_trans h5.2 h3,?_⟩;have:(lm n M i (t::l) σ).2.2.length≤(uo n M i σ t).2.2.length+l.length:=h4;simp only[List.length_cons];omega
theorem qh9{n:cx}{M i:Nat}(s:List Int):∀(l:List Nat) {σ:q4},i<σ.2.1.length→dg σ i=s→lm n M i (l.filter fun t=>k6 (trA n t) s) σ=lm n M i l σ
 |[],σ,_,_=>rfl
 |t::l,σ,hi,hs=>by
  have h1:=qoa (n:=n) (M:=M) (i:=i) hi t;cases hc:k6 (trA n t) s with
  |true=>
   rw[List.filter_cons_of_pos (by rw[hc])];exact qh9 s l (Nat.lt_of_lt_of_le hi h1.2) (h1.1.trans hs)
  |false=>
   rw[List.filter_cons_of_neg (by rw[hc];decide)];have:uo n M i σ t=σ:=by
    rcases ph n M i σ t with⟨_,e⟩|⟨h,_⟩|⟨h,_⟩|⟨h,_⟩|⟨h,_⟩
    ·exact e
    all_goals rw[hs,hc]at h;cases h
   show _=lm n M i l (uo n M i σ t);rw[this];exact qh9 s l hi hs
def jcq(k:ByteArray)(x:Int)(a:List (ByteArray×Int)):List (ByteArray×Int):=t4 .str k x a
def qy4(st:List (List Int)):List (ByteArray×Int):=(List.range st.length).foldl (fun a i=>jcq (qmm (st.getD i [])) (i:Int) a) []
theorem q3q{α:Type}{P:List α→Prop}(h0:P [])(h1:∀l x,P l→P (l++[x]))(l:List α):P l:=by
 have h:∀l:List α,P l.reverse:=fun l=>by
  induction l with
  |nil=>exact h0
  |cons x l ih=>rw[List.reverse_cons];exact h1 _ _ ih
 rw[←List.reverse_reverse l];exact h _
theorem qmg{α β:Type}{f g:β→α→β}:∀(l:List α) (b:β),(∀b a,a∈l→f b a=g b a)→l.foldl f b=l.foldl g b
 |[],_,_=>rfl
 |a::l,b,h=>by
  rw[List.foldl_cons,List.foldl_cons,h b a List.mem_cons_self];exact qmg l _ fun b a ha=>h b a (List.mem_cons_of_mem _ ha)
theorem qxo(st:List (List Int))(x:List Int):qy4 (st++[x])=jcq (qmm x) (st.length:Int) (qy4 st):=by
 unfold qy4;rw[List.length_append,List.length_cons,List.length_nil,List.range_succ,List.foldl_append,List.foldl_cons,List.foldl_nil,qx3];exact congrArg _ (qmg _ _ fun b a ha=>by rw[qmh _ _ _ _ (List.mem_range.1 ha)])
theorem qxy{α:Type}(q:α→Bool):∀(l:List α) (x:α),kl q (l++[x])=match kl q l with|some i=>some i|none=>bif q x then some l.length else none
 |[],x=>by
  show(bif q x then some 0 else _)=_;cases q x<;>rfl
 |y::l,x=>by
  show(bif q y then some 0 else(kl q (l++[x])).map (·+1))=match(bif q y then some 0 else(kl q l).map (·+1))with|some i=>some i|none=>_
  rw[qxy q l x];cases q y with
  |true=>rfl
  |false=>
   cases kl q l with
   |some i=>rfl
   |none=>cases q x<;>rfl
theorem qon{N:Int}(x:List Int)(hx:di N x=true):∀st:List (List Int),(∀y∈st,di N y=true)→st.Nodup→ca .str (qmm x) (qy4 st)=Option.map (fun i:Nat=>(i:Int)) (kl (fun y:List Int=>decide (y=x)) st):=by
 intro st;refine q3q (P:=fun st:List (List Int)=>(∀y∈st,di N y=true)→st.Nodup→ca .str (qmm x) (qy4 st)=Option.map (fun i:Nat=>(i:Int)) (kl (fun y:List Int=>decide (y=x)) st)) (fun _ _=>rfl) (fun st y ih=> ?_) st
 ·intro hm hn;rw[qxo,qxy];unfold jcq;rw[qyc];have hn' :=List.nodup_append.1 hn;have ih:=ih (fun z hz=>hm z (List.mem_append_left _ hz)) hn'.1;by_cases e:y=x
  ·subst e;have h0:kl (fun z:List Int=>decide (z=y)) st=none:=by
    cases hf:kl (fun z:List Int=>decide (z=y)) st with
    |none=>rfl
    |some i=>
     obtain⟨h1,h2,_⟩:=us [] hf;exact absurd (of_decide_eq_true h2) (hn'.2.2 _ (ba [] h1) _ (List.mem_singleton.2 rfl))
   rw[h0,qv7];simp
  ·have h1:xh (qmm x) (qmm y)=false:=by
    cases hs:xh (qmm x) (qmm y)with
    |false=>rfl
    |true=>exact absurd (jbz hx (hm y (List.mem_append_right _ (List.mem_singleton.2 rfl))) (q3x hs)).symm e
   rw[h1,ih];simp only[cond_false,decide_eq_false e];cases kl (fun z:List Int=>decide (z=x)) st<;>rfl
end Go.Proofs.Ytokeielgplbdeaa
