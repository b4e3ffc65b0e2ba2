/-
  Predict: the search of a net's space, in plain Lean.
-/
import Derived.Test.YtokeielgplbdeaaZ6N2
set_option linter.all false
namespace Go.Proofs.Ytokeielgplbdeaa
open Go.K Go.M
abbrev p2:Type:=Bool×List (List Int)×List ao
abbrev cp(σ:p2)(i:Nat):List Int:=σ.2.1.getD i []
abbrev trA(n:c9)(t:Nat):ai:=n.2.1.getD t ai.z
def mvA(i k t:Nat):ao:=((i:Int),(k:Int),(t:Int),())
def qv7(σ:p2)(x:List Int):Option Nat:=km (fun y:List Int=>decide (y=x)) σ.2.1
def uz(n:c9)(M i:Nat)(σ:p2)(t:Nat):p2:=
 bif kw (trA n t) (cp σ i)then
  bif df n.1 (cw (trA n t) (cp σ i))then
   match qv7 σ (cw (trA n t) (cp σ i))with
   |some k=>(σ.1,σ.2.1,σ.2.2++[mvA i k t])
   |none=>if σ.2.1.length<M then(σ.1,σ.2.1++[cw (trA n t) (cp σ i)],σ.2.2++[mvA i σ.2.1.length t])else(false,σ.2.1,σ.2.2)
  else(false,σ.2.1,σ.2.2)
 else σ
abbrev lq(n:c9)(M i:Nat)(l:List Nat)(σ:p2):p2:=l.foldl (uz n M i) σ
def wm(n:c9)(M:Nat):Nat→Nat→p2→p2
 |0,_,σ=>σ
 |f+1,i,σ=>if i<σ.2.1.length then wm n M f (i+1) (lq n M i (List.range n.2.1.length) σ)else σ
theorem pg(n:c9)(M i:Nat)(σ:p2)(t:Nat):
  (kw (trA n t) (cp σ i)=false∧uz n M i σ t=σ)∨
  (kw (trA n t) (cp σ i)=true∧df n.1 (cw (trA n t) (cp σ i))=false∧uz n M i σ t=(false,σ.2.1,σ.2.2))∨
  (kw (trA n t) (cp σ i)=true∧df n.1 (cw (trA n t) (cp σ i))=true∧∃k,qv7 σ (cw (trA n t) (cp σ i))=some k∧uz n M i σ t=(σ.1,σ.2.1,σ.2.2++[mvA i k t]))∨
  (kw (trA n t) (cp σ i)=true∧df n.1 (cw (trA n t) (cp σ i))=true∧qv7 σ (cw (trA n t) (cp σ i))=none∧σ.2.1.length<M∧uz n M i σ t=(σ.1,σ.2.1++[cw (trA n t) (cp σ i)],σ.2.2++[mvA i σ.2.1.length t]))∨
  (kw (trA n t) (cp σ i)=true∧df n.1 (cw (trA n t) (cp σ i))=true∧qv7 σ (cw (trA n t) (cp σ i))=none∧¬σ.2.1.length<M∧uz n M i σ t=(false,σ.2.1,σ.2.2)):=by
 unfold uz;cases h1:kw (trA n t) (cp σ i)with
 |false=>exact .inl ⟨rfl,rfl⟩
 |true=>
  cases h2:df n.1 (cw (trA n t) (cp σ i))with
  |false=>exact .inr (.inl ⟨rfl,rfl,rfl⟩)
  |true=>
   cases h3:qv7 σ (cw (trA n t) (cp σ i))with
   |some k=>exact .inr (.inr (.inl ⟨rfl,rfl,k,rfl,rfl⟩))
   |none=>
    by_cases h4:σ.2.1.length<M
    ·refine .inr (.inr (.inr (.inl ⟨rfl,rfl,rfl,h4,?_⟩)));simp only[cond_true,if_pos h4]
    ·refine .inr (.inr (.inr (.inr ⟨rfl,rfl,rfl,h4,?_⟩)));simp only[cond_true,if_neg h4]
theorem q7r{σ:p2}{x:List Int}{k:Nat}(h:qv7 σ x=some k):k<σ.2.1.length∧cp σ k=x:=by
 obtain⟨h1,h2,_⟩:=u5 [] h;exact⟨h1,of_decide_eq_true h2⟩
theorem q7q{σ:p2}{x:List Int}(h:qv7 σ x=none):x∉σ.2.1:=fun hx=>by
 have:=qb2 h x hx;exact absurd rfl (of_decide_eq_false this)
theorem qlc{α:Type}(l:List α)(x d:α)(i:Nat)(h:i<l.length):(l++[x]).getD i d=l.getD i d:=by
 rw[List.getD_eq_getElem?_getD,List.getD_eq_getElem?_getD,List.getElem?_append_left h]
theorem quk{α:Type}(l:List α)(x d:α):(l++[x]).getD l.length d=x:=by
 rw[List.getD_eq_getElem?_getD,List.getElem?_append_right (Nat.le_refl _),Nat.sub_self];rfl
structure SpI (n : c9) (M : Nat) (σ : p2) : Prop where
 mks : ∀ x ∈ σ.2.1, df n.1 x = true
 nd : σ.2.1.Nodup
 len : σ.2.1.length ≤ M
 pos : 0 < σ.2.1.length
theorem SpI.flag{n:c9}{M:Nat}{σ:p2}(h:SpI n M σ)(b:Bool)(mv:List ao):SpI n M (b,σ.2.1,mv):=⟨h.mks,h.nd,h.len,h.pos⟩
theorem SpI.push{n:c9}{M:Nat}{σ:p2}(h:SpI n M σ)(b:Bool)(mv:List ao){x:List Int}(hx:df n.1 x=true)(hn:x∉σ.2.1)(hl:σ.2.1.length<M):SpI n M (b,σ.2.1++[x],mv):=by
 refine⟨fun y hy=> ?_,?_,by simp;omega,by simp⟩
 ·rcases List.mem_append.1 hy with hy|hy
  ·exact h.mks y hy
  ·rw[List.mem_singleton.1 hy];exact hx
 ·exact List.nodup_append.2 ⟨h.nd,by simp,fun a ha b hb=>by rw[List.mem_singleton.1 hb];exact fun e=>hn (e▸ha)⟩
theorem SpI.step{n:c9}{M i:Nat}{σ:p2}(h:SpI n M σ)(t:Nat):SpI n M (uz n M i σ t):=by
 rcases pg n M i σ t with⟨_,e⟩|⟨_,_,e⟩|⟨_,_,k,_,e⟩|⟨_,h2,h3,h4,e⟩|⟨_,_,_,_,e⟩<;>rw[e]
 ·exact h
 ·exact h.flag _ _
 ·exact h.flag _ _
 ·exact h.push _ _ h2 (q7q h3) h4
 ·exact h.flag _ _
theorem qmr{n:c9}{M i:Nat}{σ:p2}{j:Nat}(hj:j<σ.2.1.length)(t:Nat):cp (uz n M i σ t) j=cp σ j∧σ.2.1.length≤(uz n M i σ t).2.1.length:=by
 rcases pg n M i σ t with⟨_,e⟩|⟨_,_,e⟩|⟨_,_,k,_,e⟩|⟨_,h2,h3,h4,e⟩|⟨_,_,_,_,e⟩<;>rw[e]
 ·exact⟨rfl,Nat.le_refl _⟩
 ·exact⟨rfl,Nat.le_refl _⟩
 ·exact⟨rfl,Nat.le_refl _⟩
 ·exact⟨qlc _ _ _ _ hj,by simp⟩
 ·exact⟨rfl,Nat.le_refl _⟩
theorem q9o(n:c9)(M i:Nat)(σ:p2)(t:Nat):(uz n M i σ t).2.2.length≤σ.2.2.length+1:=by
 rcases pg n M i σ t with⟨_,e⟩|⟨_,_,e⟩|⟨_,_,k,_,e⟩|⟨_,h2,h3,h4,e⟩|⟨_,_,_,_,e⟩<;>rw[e]<;>simp
theorem ri{n:c9}{M i:Nat}:∀(l:List Nat) {σ:p2},SpI n M σ→SpI n M (lq n M i l σ)∧(∀j,j<σ.2.1.length→cp (lq n M i l σ) j=cp σ j)∧σ.2.1.length≤(lq n M i l σ).2.1.length∧(lq n M i l σ).2.2.length≤σ.2.2.length+l.length
 |[],σ,h=>⟨h,fun _ _=>rfl,Nat.le_refl _,Nat.le_refl _⟩
 |t::l,σ,h=>by
  obtain⟨h1,h2,h3,h4⟩:=ri (n:=n) (M:=M) (i:=i) l (h.step (i:=i) t);have h5:=qmr (n:=n) (M:=M) (i:=i) (σ:=σ) h.pos t;have h6:=q9o n M i σ t;refine⟨h1,fun j hj=>(h2 j (by omega)).trans (qmr hj t).1,Nat.le_trans h5.2 h3,?_⟩;have:(lq n M i (t::l) σ).2.2.length≤(uz n M i σ t).2.2.length+l.length:=h4;simp only[List.length_cons];omega
theorem qhr{n:c9}{M i:Nat}(s:List Int):∀(l:List Nat) {σ:p2},i<σ.2.1.length→cp σ i=s→lq n M i (l.filter fun t=>kw (trA n t) s) σ=lq n M i l σ
 |[],σ,_,_=>rfl
 |t::l,σ,hi,hs=>by
  have h1:=qmr (n:=n) (M:=M) (i:=i) hi t;cases hc:kw (trA n t) s with
  |true=>
   rw[List.filter_cons_of_pos (by rw[hc])];exact qhr s l (Nat.lt_of_lt_of_le hi h1.2) (h1.1.trans hs)
  |false=>
   rw[List.filter_cons_of_neg (by rw[hc];decide)];have:uz n M i σ t=σ:=by
    rcases pg n M i σ t with⟨_,e⟩|⟨h,_⟩|⟨h,_⟩|⟨h,_⟩|⟨h,_⟩
    ·exact e
    all_goals rw[hs,hc]at h;cases h
   show _=lq n M i l (uz n M i σ t);rw[this];exact qhr s l hi hs
def q8z(k:ByteArray)(x:Int)(a:List (ByteArray×Int)):List (ByteArray×Int):=ua .str k x a
def qvm(st:List (List Int)):List (ByteArray×Int):=(List.range st.length).foldl (fun a i=>q8z (qli (st.getD i [])) (i:Int) a) []
theorem qzz{α:Type}{P:List α→Prop}(h0:P [])(h1:∀l x,P l→P (l++[x]))(l:List α):P l:=by
 have h:∀l:List α,P l.reverse:=fun l=>by
  induction l with
  |nil=>exact h0
  |cons x l ih=>rw[List.reverse_cons];exact h1 _ _ ih
 rw[←List.reverse_reverse l];exact h _
theorem qlb{α β:Type}{f g:β→α→β}:∀(l:List α) (b:β),(∀b a,a∈l→f b a=g b a)→l.foldl f b=l.foldl g b
 |[],_,_=>rfl
 |a::l,b,h=>by
  rw[List.foldl_cons,List.foldl_cons,h b a List.mem_cons_self];exact qlb l _ fun b a ha=>h b a (List.mem_cons_of_mem _ ha)
theorem qt6(st:List (List Int))(x:List Int):qvm (st++[x])=q8z (qli x) (st.length:Int) (qvm st):=by
 unfold qvm;rw[List.length_append,List.length_cons,List.length_nil,List.range_succ,List.foldl_append,List.foldl_cons,List.foldl_nil,quk];exact congrArg _ (qlb _ _ fun b a ha=>by rw[qlc _ _ _ _ (List.mem_range.1 ha)])
theorem quf{α:Type}(q:α→Bool):∀(l:List α) (x:α),km q (l++[x])=match km q l with|some i=>some i|none=>bif q x then some l.length else none
 |[],x=>by
  show(bif q x then some 0 else _)=_;cases q x<;>rfl
 |y::l,x=>by
  show(bif q y then some 0 else(km q (l++[x])).map (·+1))=match(bif q y then some 0 else(km q l).map (·+1))with|some i=>some i|none=>_
  rw[quf q l x];cases q y with
  |true=>rfl
  |false=>
   cases km q l with
   |some i=>rfl
   |none=>cases q x<;>rfl
theorem qm3{N:Int}(x:List Int)(hx:df N x=true):∀st:List (List Int),(∀y∈st,df N y=true)→st.Nodup→b8 .str (qli x) (qvm st)=Option.map (fun i:Nat=>(i:Int)) (km (fun y:List Int=>decide (y=x)) st):=by
 intro st;refine qzz (P:=fun st:List (List Int)=>(∀y∈st,df N y=true)→st.Nodup→b8 .str (qli x) (qvm st)=Option.map (fun i:Nat=>(i:Int)) (km (fun y:List Int=>decide (y=x)) st)) (fun _ _=>rfl) (fun st y ih=> ?_) st
 ·intro hm hn;rw[qt6,quf];unfold q8z;rw[quu];have hn' :=List.nodup_append.1 hn;have ih:=ih (fun z hz=>hm z (List.mem_append_left _ hz)) hn'.1;by_cases e:y=x
  ·subst e;have h0:km (fun z:List Int=>decide (z=y)) st=none:=by
    cases hf:km (fun z:List Int=>decide (z=y)) st with
    |none=>rfl
    |some i=>
     obtain⟨h1,h2,_⟩:=u5 [] hf;exact absurd (of_decide_eq_true h2) (hn'.2.2 _ (az [] h1) _ (List.mem_singleton.2 rfl))
   rw[h0,qs6];simp
  ·have h1:xp (qli x) (qli y)=false:=by
    cases hs:xp (qli x) (qli y)with
    |false=>rfl
    |true=>exact absurd (q76 hx (hm y (List.mem_append_right _ (List.mem_singleton.2 rfl))) (qz6 hs)).symm e
   rw[h1,ih];simp only[cond_false,decide_eq_false e];cases km (fun z:List Int=>decide (z=x)) st<;>rfl
end Go.Proofs.Ytokeielgplbdeaa
