/-
  Predict: the search of a net's space, in plain Lean.
-/
import Derived.Test.YtokeielgplbdeaaZ8N2
set_option linter.all false
namespace Go.Proofs.Ytokeielgplbdeaa
open Go.K Go.M
abbrev pb:Type:=Bool×List (List Int)×List aq
abbrev c7(σ:pb)(i:Nat):List Int:=σ.2.1.getD i []
abbrev oi(n:cj)(t:Nat):ag:=n.2.1.getD t ag.z
def mvA(i k t:Nat):aq:=((i:Int),(k:Int),(t:Int),())
def qxu(σ:pb)(x:List Int):Option Nat:=k9 (fun y:List Int=>decide (y=x)) σ.2.1
def td(n:cj)(M i:Nat)(σ:pb)(t:Nat):pb:=
 bif jm (oi n t) (c7 σ i)then
  bif c8 n.1 (ca (oi n t) (c7 σ i))then
   match qxu σ (ca (oi n t) (c7 σ i))with
   |some k=>(σ.1,σ.2.1,σ.2.2++[mvA i k t])
   |none=>if σ.2.1.length<M then(σ.1,σ.2.1++[ca (oi n t) (c7 σ i)],σ.2.2++[mvA i σ.2.1.length t])else(false,σ.2.1,σ.2.2)
  else(false,σ.2.1,σ.2.2)
 else σ
abbrev ll(n:cj)(M i:Nat)(l:List Nat)(σ:pb):pb:=l.foldl (td n M i) σ
def tn(n:cj)(M:Nat):Nat→Nat→pb→pb
 |0,_,σ=>σ
 |f+1,i,σ=>if i<σ.2.1.length then tn n M f (i+1) (ll n M i (List.range n.2.1.length) σ)else σ
theorem nk(n:cj)(M i:Nat)(σ:pb)(t:Nat):
  (jm (oi n t) (c7 σ i)=false∧td n M i σ t=σ)∨
  (jm (oi n t) (c7 σ i)=true∧c8 n.1 (ca (oi n t) (c7 σ i))=false∧td n M i σ t=(false,σ.2.1,σ.2.2))∨
  (jm (oi n t) (c7 σ i)=true∧c8 n.1 (ca (oi n t) (c7 σ i))=true∧∃k,qxu σ (ca (oi n t) (c7 σ i))=some k∧td n M i σ t=(σ.1,σ.2.1,σ.2.2++[mvA i k t]))∨
  (jm (oi n t) (c7 σ i)=true∧c8 n.1 (ca (oi n t) (c7 σ i))=true∧qxu σ (ca (oi n t) (c7 σ i))=none∧σ.2.1.length<M∧td n M i σ t=(σ.1,σ.2.1++[ca (oi n t) (c7 σ i)],σ.2.2++[mvA i σ.2.1.length t]))∨
  (jm (oi n t) (c7 σ i)=true∧c8 n.1 (ca (oi n t) (c7 σ i))=true∧qxu σ (ca (oi n t) (c7 σ i))=none∧¬σ.2.1.length<M∧td n M i σ t=(false,σ.2.1,σ.2.2)):=by
 unfold td;cases h1:jm (oi n t) (c7 σ i)with
 |false=>exact .inl ⟨rfl,rfl⟩
 |true=>
  cases h2:c8 n.1 (ca (oi n t) (c7 σ i))with
  |false=>exact .inr (.inl ⟨rfl,rfl,rfl⟩)
  |true=>
   cases h3:qxu σ (ca (oi n t) (c7 σ i))with
   |some k=>exact .inr (.inr (.inl ⟨rfl,rfl,k,rfl,rfl⟩))
   |none=>
    by_cases h4:σ.2.1.length<M
    ·refine .inr (.inr (.inr (.inl ⟨rfl,rfl,rfl,h4,?_⟩)));simp only[cond_true,if_pos h4]
    ·refine .inr (.inr (.inr (.inr ⟨rfl,rfl,rfl,h4,?_⟩)));simp only[cond_true,if_neg h4]
theorem q9y{σ:pb}{x:List Int}{k:Nat}(h:qxu σ x=some k):k<σ.2.1.length∧c7 σ k=x:=by
 obtain⟨h1,h2,_⟩:=vm [] h;exact⟨h1,of_decide_eq_true h2⟩
theorem q0g{σ:pb}{x:List Int}(h:qxu σ x=none):x∉σ.2.1:=fun hx=>by
 have:=qcf h x hx;exact absurd rfl (of_decide_eq_false this)
theorem qln{α:Type}(l:List α)(x d:α)(i:Nat)(h:i<l.length):(l++[x]).getD i d=l.getD i d:=by
 rw[List.getD_eq_getElem?_getD,List.getD_eq_getElem?_getD,List.getElem?_append_left h]
theorem qvy{α:Type}(l:List α)(x d:α):(l++[x]).getD l.length d=x:=by
 rw[List.getD_eq_getElem?_getD,List.getElem?_append_right (Nat.le_refl _),Nat.sub_self];rfl
structure SpI (n : cj) (M : Nat) (σ : pb) : Prop where
 mks : ∀ x ∈ σ.2.1, c8 n.1 x = true
 nd : σ.2.1.Nodup
 len : σ.2.1.length ≤ M
 pos : 0 < σ.2.1.length
theorem SpI.flag{n:cj}{M:Nat}{σ:pb}(h:SpI n M σ)(b:Bool)(mv:List aq):SpI n M (b,σ.2.1,mv):=⟨h.mks,h.nd,h.len,h.pos⟩
theorem SpI.push{n:cj}{M:Nat}{σ:pb}(h:SpI n M σ)(b:Bool)(mv:List aq){x:List Int}(hx:c8 n.1 x=true)(hn:x∉σ.2.1)(hl:σ.2.1.length<M):SpI n M (b,σ.2.1++[x],mv):=by
 refine⟨fun y hy=> ?_,?_,by simp;omega,by simp⟩
 ·rcases List.mem_append.1 hy with hy|hy
  ·exact h.mks y hy
  ·rw[List.mem_singleton.1 hy];exact hx
 ·exact List.nodup_append.2 ⟨h.nd,by simp,fun a ha b hb=>by rw[List.mem_singleton.1 hb];exact fun e=>hn (e▸ha)⟩
theorem SpI.step{n:cj}{M i:Nat}{σ:pb}(h:SpI n M σ)(t:Nat):SpI n M (td n M i σ t):=by
 rcases nk n M i σ t with⟨_,e⟩|⟨_,_,e⟩|⟨_,_,k,_,e⟩|⟨_,h2,h3,h4,e⟩|⟨_,_,_,_,e⟩<;>rw[e]
 ·exact h
 ·exact h.flag _ _
 ·exact h.flag _ _
 ·exact h.push _ _ h2 (q0g h3) h4
 ·exact h.flag _ _
theorem qh8{n:cj}{M i:Nat}{σ:pb}{j:Nat}(hj:j<σ.2.1.length)(t:Nat):c7 (td n M i σ t) j=c7 σ j∧σ.2.1.length≤(td n M i σ t).2.1.length:=by
 rcases nk n M i σ t with⟨_,e⟩|⟨_,_,e⟩|⟨_,_,k,_,e⟩|⟨_,h2,h3,h4,e⟩|⟨_,_,_,_,e⟩<;>rw[e]
 ·exact⟨rfl,Nat.le_refl _⟩
 ·exact⟨rfl,Nat.le_refl _⟩
 ·exact⟨rfl,Nat.le_refl _⟩
 ·exact⟨qln _ _ _ _ hj,by simp⟩
 ·exact⟨rfl,Nat.le_refl _⟩
theorem jbx(n:cj)(M i:Nat)(σ:pb)(t:Nat):(td n M i σ t).2.2.length≤σ.2.2.length+1:=by
 rcases nk n M i σ t with⟨_,e⟩|⟨_,_,e⟩|⟨_,_,k,_,e⟩|⟨_,h2,h3,h4,e⟩|⟨_,_,_,_,e⟩<;>rw[e]<;>simp
theorem pt{n:cj}{M i:Nat}:∀(l:List Nat) {σ:pb},SpI n M σ→SpI n M (ll n M i l σ)∧(∀j,j<σ.2.1.length→c7 (ll n M i l σ) j=c7 σ j)∧σ.2.1.length≤(ll n M i l σ).2.1.length∧(ll n M i l σ).2.2.length≤σ.2.2.length+l.length
 |[],σ,h=>⟨h,fun _ _=>rfl,Nat.le_refl _,Nat.le_refl _⟩
 |t::l,σ,h=>by
  obtain⟨h1,h2,h3,h4⟩:=pt (n:=n) (M:=M) (i:=i) l (h.step (i:=i) t);have h5:=qh8 (n:=n) (M:=M) (i:=i) (σ:=σ) h.pos t;have h6:=jbx n M i σ t;refine⟨h1,fun j hj=>(h2 j (by omega)).trans (qh8 hj t).1,Nat.le_trans h5.2 h3,?_⟩;have:(ll n M i (t::l) σ).2.2.length≤(td n M i σ t).2.2.length+l.length:=h4;simp only[List.length_cons];omega
theorem qh0{n:cj}{M i:Nat}(s:List Int):∀(l:List Nat) {σ:pb},i<σ.2.1.length→c7 σ i=s→ll n M i (l.filter fun t=>jm (oi n t) s) σ=ll n M i l σ
 |[],σ,_,_=>rfl
 |t::l,σ,hi,hs=>by
  have h1:=qh8 (n:=n) (M:=M) (i:=i) hi t;cases hc:jm (oi n t) s with
  |true=>
   rw[List.filter_cons_of_pos (by rw[hc])];exact qh0 s l (Nat.lt_of_lt_of_le hi h1.2) (h1.1.trans hs)
  |false=>
   rw[List.filter_cons_of_neg (by rw[hc];decide)];have:td n M i σ t=σ:=by
    rcases nk n M i σ t with⟨_,e⟩|⟨h,_⟩|⟨h,_⟩|⟨h,_⟩|⟨h,_⟩
    ·exact e
    all_goals rw[hs,hc]at h;cases h
   show _=ll n M i l (td n M i σ t);rw[this];exact qh0 s l hi hs
def ja9(k:ByteArray)(x:Int)(a:List (ByteArray×Int)):List (ByteArray×Int):=ur .str k x a
def qw4(st:List (List Int)):List (ByteArray×Int):=(List.range st.length).foldl (fun a i=>ja9 (qls (st.getD i [])) (i:Int) a) []
theorem q1n{α:Type}{P:List α→Prop}(h0:P [])(h1:∀l x,P l→P (l++[x]))(l:List α):P l:=by
 have h:∀l:List α,P l.reverse:=fun l=>by
  induction l with
  |nil=>exact h0
  |cons x l ih=>rw[List.reverse_cons];exact h1 _ _ ih
 rw[←List.reverse_reverse l];exact h _
theorem qlm{α β:Type}{f g:β→α→β}:∀(l:List α) (b:β),(∀b a,a∈l→f b a=g b a)→l.foldl f b=l.foldl g b
 |[],_,_=>rfl
 |a::l,b,h=>by
  rw[List.foldl_cons,List.foldl_cons,h b a List.mem_cons_self];exact qlm l _ fun b a ha=>h b a (List.mem_cons_of_mem _ ha)
theorem qvj(st:List (List Int))(x:List Int):qw4 (st++[x])=ja9 (qls x) (st.length:Int) (qw4 st):=by
 unfold qw4;rw[List.length_append,List.length_cons,List.length_nil,List.range_succ,List.foldl_append,List.foldl_cons,List.foldl_nil,qvy];exact congrArg _ (qlm _ _ fun b a ha=>by rw[qln _ _ _ _ (List.mem_range.1 ha)])
theorem qvs{α:Type}(q:α→Bool):∀(l:List α) (x:α),k9 q (l++[x])=match k9 q l with|some i=>some i|none=>bif q x then some l.length else none
 |[],x=>by
  show(bif q x then some 0 else _)=_;cases q x<;>rfl
 |y::l,x=>by
  show(bif q y then some 0 else(k9 q (l++[x])).map (·+1))=match(bif q y then some 0 else(k9 q l).map (·+1))with|some i=>some i|none=>_
  rw[qvs q l x];cases q y with
  |true=>rfl
  |false=>
   cases k9 q l with
   |some i=>rfl
   |none=>cases q x<;>rfl
theorem qnh{N:Int}(x:List Int)(hx:c8 N x=true):∀st:List (List Int),(∀y∈st,c8 N y=true)→st.Nodup→cb .str (qls x) (qw4 st)=Option.map (fun i:Nat=>(i:Int)) (k9 (fun y:List Int=>decide (y=x)) st):=by
 intro st;refine q1n (P:=fun st:List (List Int)=>(∀y∈st,c8 N y=true)→st.Nodup→cb .str (qls x) (qw4 st)=Option.map (fun i:Nat=>(i:Int)) (k9 (fun y:List Int=>decide (y=x)) st)) (fun _ _=>rfl) (fun st y ih=> ?_) st
 ·intro hm hn;rw[qvj,qvs];unfold ja9;rw[qv9];have hn' :=List.nodup_append.1 hn;have ih:=ih (fun z hz=>hm z (List.mem_append_left _ hz)) hn'.1;by_cases e:y=x
  ·subst e;have h0:k9 (fun z:List Int=>decide (z=y)) st=none:=by
    cases hf:k9 (fun z:List Int=>decide (z=y)) st with
    |none=>rfl
    |some i=>
     obtain⟨h1,h2,_⟩:=vm [] hf;exact absurd (of_decide_eq_true h2) (hn'.2.2 _ (aw [] h1) _ (List.mem_singleton.2 rfl))
   rw[h0,qt8];simp
  ·have h1:x4 (qls x) (qls y)=false:=by
    cases hs:x4 (qls x) (qls y)with
    |false=>rfl
    |true=>exact absurd (jaf hx (hm y (List.mem_append_right _ (List.mem_singleton.2 rfl))) (q1v hs)).symm e
   rw[h1,ih];simp only[cond_false,decide_eq_false e];cases k9 (fun z:List Int=>decide (z=x)) st<;>rfl
end Go.Proofs.Ytokeielgplbdeaa
