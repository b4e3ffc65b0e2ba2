/-
  Predict: the search of a net's space, in plain Lean.
-/
import Derived.Test.YtokeielgplbdeaaZ4N2
set_option linter.all false
namespace Go.Proofs.Ytokeielgplbdeaa
open Go.K Go.M
abbrev ox:Type:=Bool×List (List Int)×List aq
abbrev bu(σ:ox)(i:Nat):List Int:=σ.2.1.getD i []
abbrev wh(n:c8)(t:Nat):ai:=n.2.1.getD t ai.z
def mvA(i k t:Nat):aq:=((i:Int),(k:Int),(t:Int),())
def qvk(σ:ox)(x:List Int):Option Nat:=km (fun y:List Int=>decide (y=x)) σ.2.1
def sn(n:c8)(M i:Nat)(σ:ox)(t:Nat):ox:=
 bif jl (wh n t) (bu σ i)then
  bif de n.1 (ce (wh n t) (bu σ i))then
   match qvk σ (ce (wh n t) (bu σ i))with
   |some k=>(σ.1,σ.2.1,σ.2.2++[mvA i k t])
   |none=>if σ.2.1.length<M then(σ.1,σ.2.1++[ce (wh n t) (bu σ i)],σ.2.2++[mvA i σ.2.1.length t])else(false,σ.2.1,σ.2.2)
  else(false,σ.2.1,σ.2.2)
 else σ
abbrev k9(n:c8)(M i:Nat)(l:List Nat)(σ:ox):ox:=l.foldl (sn n M i) σ
def s3(n:c8)(M:Nat):Nat→Nat→ox→ox
 |0,_,σ=>σ
 |f+1,i,σ=>if i<σ.2.1.length then s3 n M f (i+1) (k9 n M i (List.range n.2.1.length) σ)else σ
theorem ne(n:c8)(M i:Nat)(σ:ox)(t:Nat):
  (jl (wh n t) (bu σ i)=false∧sn n M i σ t=σ)∨
  (jl (wh n t) (bu σ i)=true∧de n.1 (ce (wh n t) (bu σ i))=false∧sn n M i σ t=(false,σ.2.1,σ.2.2))∨
  (jl (wh n t) (bu σ i)=true∧de n.1 (ce (wh n t) (bu σ i))=true∧∃k,qvk σ (ce (wh n t) (bu σ i))=some k∧sn n M i σ t=(σ.1,σ.2.1,σ.2.2++[mvA i k t]))∨
  (jl (wh n t) (bu σ i)=true∧de n.1 (ce (wh n t) (bu σ i))=true∧qvk σ (ce (wh n t) (bu σ i))=none∧σ.2.1.length<M∧sn n M i σ t=(σ.1,σ.2.1++[ce (wh n t) (bu σ i)],σ.2.2++[mvA i σ.2.1.length t]))∨
  (jl (wh n t) (bu σ i)=true∧de n.1 (ce (wh n t) (bu σ i))=true∧qvk σ (ce (wh n t) (bu σ i))=none∧¬σ.2.1.length<M∧sn n M i σ t=(false,σ.2.1,σ.2.2)):=by
 unfold sn;cases h1:jl (wh n t) (bu σ i)with
 |false=>exact .inl ⟨rfl,rfl⟩
 |true=>
  cases h2:de n.1 (ce (wh n t) (bu σ i))with
  |false=>exact .inr (.inl ⟨rfl,rfl,rfl⟩)
  |true=>
   cases h3:qvk σ (ce (wh n t) (bu σ i))with
   |some k=>exact .inr (.inr (.inl ⟨rfl,rfl,k,rfl,rfl⟩))
   |none=>
    by_cases h4:σ.2.1.length<M
    ·refine .inr (.inr (.inr (.inl ⟨rfl,rfl,rfl,h4,?_⟩)));simp only[cond_true,if_pos h4]
    ·refine .inr (.inr (.inr (.inr ⟨rfl,rfl,rfl,h4,?_⟩)));simp only[cond_true,if_neg h4]
theorem q6y{σ:ox}{x:List Int}{k:Nat}(h:qvk σ x=some k):k<σ.2.1.length∧bu σ k=x:=by
 obtain⟨h1,h2,_⟩:=uv [] h;exact⟨h1,of_decide_eq_true h2⟩
theorem qxy{σ:ox}{x:List Int}(h:qvk σ x=none):x∉σ.2.1:=fun hx=>by
 have:=qb4 h x hx;exact absurd rfl (of_decide_eq_false this)
theorem qkr{α:Type}(l:List α)(x d:α)(i:Nat)(h:i<l.length):(l++[x]).getD i d=l.getD i d:=by
 rw[List.getD_eq_getElem?_getD,List.getD_eq_getElem?_getD,List.getElem?_append_left h]
theorem qtw{α:Type}(l:List α)(x d:α):(l++[x]).getD l.length d=x:=by
 rw[List.getD_eq_getElem?_getD,List.getElem?_append_right (Nat.le_refl _),Nat.sub_self];rfl
structure SpI (n : c8) (M : Nat) (σ : ox) : Prop where
 mks : ∀ x ∈ σ.2.1, de n.1 x = true
 nd : σ.2.1.Nodup
 len : σ.2.1.length ≤ M
 pos : 0 < σ.2.1.length
theorem SpI.flag{n:c8}{M:Nat}{σ:ox}(h:SpI n M σ)(b:Bool)(mv:List aq):SpI n M (b,σ.2.1,mv):=⟨h.mks,h.nd,h.len,h.pos⟩
theorem SpI.push{n:c8}{M:Nat}{σ:ox}(h:SpI n M σ)(b:Bool)(mv:List aq){x:List Int}(hx:de n.1 x=true)(hn:x∉σ.2.1)(hl:σ.2.1.length<M):SpI n M (b,σ.2.1++[x],mv):=by
 refine⟨fun y hy=> ?_,?_,by simp;omega,by simp⟩
 ·rcases List.mem_append.1 hy with hy|hy
  ·exact h.mks y hy
  ·rw[List.mem_singleton.1 hy];exact hx
 ·exact List.nodup_append.2 ⟨h.nd,by simp,fun a ha b hb=>by rw[List.mem_singleton.1 hb];exact fun e=>hn (e▸ha)⟩
theorem SpI.step{n:c8}{M i:Nat}{σ:ox}(h:SpI n M σ)(t:Nat):SpI n M (sn n M i σ t):=by
 rcases ne n M i σ t with⟨_,e⟩|⟨_,_,e⟩|⟨_,_,k,_,e⟩|⟨_,h2,h3,h4,e⟩|⟨_,_,_,_,e⟩<;>rw[e]
 ·exact h
 ·exact h.flag _ _
 ·exact h.flag _ _
 ·exact h.push _ _ h2 (qxy h3) h4
 ·exact h.flag _ _
theorem qhr{n:c8}{M i:Nat}{σ:ox}{j:Nat}(hj:j<σ.2.1.length)(t:Nat):bu (sn n M i σ t) j=bu σ j∧σ.2.1.length≤(sn n M i σ t).2.1.length:=by
 rcases ne n M i σ t with⟨_,e⟩|⟨_,_,e⟩|⟨_,_,k,_,e⟩|⟨_,h2,h3,h4,e⟩|⟨_,_,_,_,e⟩<;>rw[e]
 ·exact⟨rfl,Nat.le_refl _⟩
 ·exact⟨rfl,Nat.le_refl _⟩
 ·exact⟨rfl,Nat.le_refl _⟩
 ·exact⟨qkr _ _ _ _ hj,by simp⟩
 ·exact⟨rfl,Nat.le_refl _⟩
theorem q8v(n:c8)(M i:Nat)(σ:ox)(t:Nat):(sn n M i σ t).2.2.length≤σ.2.2.length+1:=by
 rcases ne n M i σ t with⟨_,e⟩|⟨_,_,e⟩|⟨_,_,k,_,e⟩|⟨_,h2,h3,h4,e⟩|⟨_,_,_,_,e⟩<;>rw[e]<;>simp
theorem pm{n:c8}{M i:Nat}:∀(l:List Nat) {σ:ox},SpI n M σ→SpI n M (k9 n M i l σ)∧(∀j,j<σ.2.1.length→bu (k9 n M i l σ) j=bu σ j)∧σ.2.1.length≤(k9 n M i l σ).2.1.length∧(k9 n M i l σ).2.2.length≤σ.2.2.length+l.length
 |[],σ,h=>⟨h,fun _ _=>rfl,Nat.le_refl _,Nat.le_refl _⟩
 |t::l,σ,h=>by
  obtain⟨h1,h2,h3,h4⟩:=pm (n:=n) (M:=M) (i:=i) l (h.step (i:=i) t);have h5:=qhr (n:=n) (M:=M) (i:=i) (σ:=σ) h.pos t;have h6:=q8v n M i σ t;refine⟨h1,fun j hj=>(h2 j (by omega)).trans (qhr hj t).1,Nat.le_trans h5.2 h3,?_⟩;have:(k9 n M i (t::l) σ).2.2.length≤(sn n M i σ t).2.2.length+l.length:=h4;simp only[List.length_cons];omega
theorem qhj{n:c8}{M i:Nat}(s:List Int):∀(l:List Nat) {σ:ox},i<σ.2.1.length→bu σ i=s→k9 n M i (l.filter fun t=>jl (wh n t) s) σ=k9 n M i l σ
 |[],σ,_,_=>rfl
 |t::l,σ,hi,hs=>by
  have h1:=qhr (n:=n) (M:=M) (i:=i) hi t;cases hc:jl (wh n t) s with
  |true=>
   rw[List.filter_cons_of_pos (by rw[hc])];exact qhj s l (Nat.lt_of_lt_of_le hi h1.2) (h1.1.trans hs)
  |false=>
   rw[List.filter_cons_of_neg (by rw[hc];decide)];have:sn n M i σ t=σ:=by
    rcases ne n M i σ t with⟨_,e⟩|⟨h,_⟩|⟨h,_⟩|⟨h,_⟩|⟨h,_⟩
    ·exact e
    all_goals rw[hs,hc]at h;cases h
   show _=k9 n M i l (sn n M i σ t);rw[this];exact qhj s l hi hs
def q77(k:ByteArray)(x:Int)(a:List (ByteArray×Int)):List (ByteArray×Int):=t4 .str k x a
def qux(st:List (List Int)):List (ByteArray×Int):=(List.range st.length).foldl (fun a i=>q77 (qkx (st.getD i [])) (i:Int) a) []
theorem qy6{α:Type}{P:List α→Prop}(h0:P [])(h1:∀l x,P l→P (l++[x]))(l:List α):P l:=by
 have h:∀l:List α,P l.reverse:=fun l=>by
  induction l with
  |nil=>exact h0
  |cons x l ih=>rw[List.reverse_cons];exact h1 _ _ ih
 rw[←List.reverse_reverse l];exact h _
theorem qkq{α β:Type}{f g:β→α→β}:∀(l:List α) (b:β),(∀b a,a∈l→f b a=g b a)→l.foldl f b=l.foldl g b
 |[],_,_=>rfl
 |a::l,b,h=>by
  rw[List.foldl_cons,List.foldl_cons,h b a List.mem_cons_self];exact qkq l _ fun b a ha=>h b a (List.mem_cons_of_mem _ ha)
theorem qth(st:List (List Int))(x:List Int):qux (st++[x])=q77 (qkx x) (st.length:Int) (qux st):=by
 unfold qux;rw[List.length_append,List.length_cons,List.length_nil,List.range_succ,List.foldl_append,List.foldl_cons,List.foldl_nil,qtw];exact congrArg _ (qkq _ _ fun b a ha=>by rw[qkr _ _ _ _ (List.mem_range.1 ha)])
theorem qtq{α:Type}(q:α→Bool):∀(l:List α) (x:α),km q (l++[x])=match km q l with|some i=>some i|none=>bif q x then some l.length else none
 |[],x=>by
  show(bif q x then some 0 else _)=_;cases q x<;>rfl
 |y::l,x=>by
  show(bif q y then some 0 else(km q (l++[x])).map (·+1))=match(bif q y then some 0 else(km q l).map (·+1))with|some i=>some i|none=>_
  rw[qtq q l x];cases q y with
  |true=>rfl
  |false=>
   cases km q l with
   |some i=>rfl
   |none=>cases q x<;>rfl
theorem qmh{N:Int}(x:List Int)(hx:de N x=true):∀st:List (List Int),(∀y∈st,de N y=true)→st.Nodup→cf .str (qkx x) (qux st)=Option.map (fun i:Nat=>(i:Int)) (km (fun y:List Int=>decide (y=x)) st):=by
 intro st;refine qy6 (P:=fun st:List (List Int)=>(∀y∈st,de N y=true)→st.Nodup→cf .str (qkx x) (qux st)=Option.map (fun i:Nat=>(i:Int)) (km (fun y:List Int=>decide (y=x)) st)) (fun _ _=>rfl) (fun st y ih=> ?_) st
 ·intro hm hn;rw[qth,qtq];unfold q77;rw[qt5];have hn' :=List.nodup_append.1 hn;have ih:=ih (fun z hz=>hm z (List.mem_append_left _ hz)) hn'.1;by_cases e:y=x
  ·subst e;have h0:km (fun z:List Int=>decide (z=y)) st=none:=by
    cases hf:km (fun z:List Int=>decide (z=y)) st with
    |none=>rfl
    |some i=>
     obtain⟨h1,h2,_⟩:=uv [] hf;exact absurd (of_decide_eq_true h2) (hn'.2.2 _ (aw [] h1) _ (List.mem_singleton.2 rfl))
   rw[h0,qsg];simp
  ·have h1:xn (qkx x) (qkx y)=false:=by
    cases hs:xn (qkx x) (qkx y)with
    |false=>rfl
    |true=>exact absurd (q7e hx (hm y (List.mem_append_right _ (List.mem_singleton.2 rfl))) (qze hs)).symm e
   rw[h1,ih];simp only[cond_false,decide_eq_false e];cases km (fun z:List Int=>decide (z=x)) st<;>rfl
end Go.Proofs.Ytokeielgplbdeaa
