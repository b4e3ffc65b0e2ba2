/-
  Predict: the search of a net's space, in plain Lean.
-/
import Derived.Test.YtokeielgplbdeaaZ7N2
set_option linter.all false
namespace Go.Proofs.Ytokeielgplbdeaa
open Go.K Go.M
abbrev sc:Type:=Bool×List (List Int)×List am
abbrev dg(σ:sc)(i:Nat):List Int:=σ.2.1.getD i []
abbrev trA(n:cz)(t:Nat):ag:=n.2.1.getD t ag.z
def mvA(i k t:Nat):am:=((i:Int),(k:Int),(t:Int),())
def qys(σ:sc)(x:List Int):Option Nat:=kl (fun y:List Int=>decide (y=x)) σ.2.1
def uh(n:cz)(M i:Nat)(σ:sc)(t:Nat):sc:=
 bif k7 (trA n t) (dg σ i)then
  bif df n.1 (c7 (trA n t) (dg σ i))then
   match qys σ (c7 (trA n t) (dg σ i))with
   |some k=>(σ.1,σ.2.1,σ.2.2++[mvA i k t])
   |none=>if σ.2.1.length<M then(σ.1,σ.2.1++[c7 (trA n t) (dg σ i)],σ.2.2++[mvA i σ.2.1.length t])else(false,σ.2.1,σ.2.2)
  else(false,σ.2.1,σ.2.2)
 else σ
abbrev ls(n:cz)(M i:Nat)(l:List Nat)(σ:sc):sc:=l.foldl (uh n M i) σ
def v7(n:cz)(M:Nat):Nat→Nat→sc→sc
 |0,_,σ=>σ
 |f+1,i,σ=>if i<σ.2.1.length then v7 n M f (i+1) (ls n M i (List.range n.2.1.length) σ)else σ
theorem pi(n:cz)(M i:Nat)(σ:sc)(t:Nat):
  (k7 (trA n t) (dg σ i)=false∧uh n M i σ t=σ)∨
  (k7 (trA n t) (dg σ i)=true∧df n.1 (c7 (trA n t) (dg σ i))=false∧uh n M i σ t=(false,σ.2.1,σ.2.2))∨
  (k7 (trA n t) (dg σ i)=true∧df n.1 (c7 (trA n t) (dg σ i))=true∧∃k,qys σ (c7 (trA n t) (dg σ i))=some k∧uh n M i σ t=(σ.1,σ.2.1,σ.2.2++[mvA i k t]))∨
  (k7 (trA n t) (dg σ i)=true∧df n.1 (c7 (trA n t) (dg σ i))=true∧qys σ (c7 (trA n t) (dg σ i))=none∧σ.2.1.length<M∧uh n M i σ t=(σ.1,σ.2.1++[c7 (trA n t) (dg σ i)],σ.2.2++[mvA i σ.2.1.length t]))∨
  (k7 (trA n t) (dg σ i)=true∧df n.1 (c7 (trA n t) (dg σ i))=true∧qys σ (c7 (trA n t) (dg σ i))=none∧¬σ.2.1.length<M∧uh n M i σ t=(false,σ.2.1,σ.2.2)):=by
 unfold uh;cases h1:k7 (trA n t) (dg σ i)with
 |false=>exact .inl ⟨rfl,rfl⟩
 |true=>
  cases h2:df n.1 (c7 (trA n t) (dg σ i))with
  |false=>exact .inr (.inl ⟨rfl,rfl,rfl⟩)
  |true=>
   cases h3:qys σ (c7 (trA n t) (dg σ i))with
   |some k=>exact .inr (.inr (.inl ⟨rfl,rfl,k,rfl,rfl⟩))
   |none=>
    by_cases h4:σ.2.1.length<M
    ·refine .inr (.inr (.inr (.inl ⟨rfl,rfl,rfl,h4,?_⟩)));simp only[cond_true,if_pos h4]
    ·refine .inr (.inr (.inr (.inr ⟨rfl,rfl,rfl,h4,?_⟩)));simp only[cond_true,if_neg h4]
theorem jau{σ:sc}{x:List Int}{k:Nat}(h:qys σ x=some k):k<σ.2.1.length∧dg σ k=x:=by
 obtain⟨h1,h2,_⟩:=uj [] h;exact⟨h1,of_decide_eq_true h2⟩
theorem jat{σ:sc}{x:List Int}(h:qys σ x=none):x∉σ.2.1:=fun hx=>by
 have:=qbw h x hx;exact absurd rfl (of_decide_eq_false this)
theorem qlj{α:Type}(l:List α)(x d:α)(i:Nat)(h:i<l.length):(l++[x]).getD i d=l.getD i d:=by
 rw[List.getD_eq_getElem?_getD,List.getD_eq_getElem?_getD,List.getElem?_append_left h]
theorem qw9{α:Type}(l:List α)(x d:α):(l++[x]).getD l.length d=x:=by
 rw[List.getD_eq_getElem?_getD,List.getElem?_append_right (Nat.le_refl _),Nat.sub_self];rfl
structure SpI (n : cz) (M : Nat) (σ : sc) : Prop where
 mks : ∀ x ∈ σ.2.1, df n.1 x = true
 nd : σ.2.1.Nodup
 len : σ.2.1.length ≤ M
 pos : 0 < σ.2.1.length
theorem SpI.flag{n:cz}{M:Nat}{σ:sc}(h:SpI n M σ)(b:Bool)(mv:List am):SpI n M (b,σ.2.1,mv):=⟨h.mks,h.nd,h.len,h.pos⟩
theorem SpI.push{n:cz}{M:Nat}{σ:sc}(h:SpI n M σ)(b:Bool)(mv:List am){x:List Int}(hx:df n.1 x=true)(hn:x∉σ.2.1)(hl:σ.2.1.length<M):SpI n M (b,σ.2.1++[x],mv):=by
 refine⟨fun y hy=> ?_,?_,by simp;omega,by simp⟩
 ·rcases List.mem_append.1 hy with hy|hy
  ·exact h.mks y hy
  ·rw[List.mem_singleton.1 hy];exact hx
 ·exact List.nodup_append.2 ⟨h.nd,by simp,fun a ha b hb=>by rw[List.mem_singleton.1 hb];exact fun e=>hn (e▸ha)⟩
theorem SpI.step{n:cz}{M i:Nat}{σ:sc}(h:SpI n M σ)(t:Nat):SpI n M (uh n M i σ t):=by
 rcases pi n M i σ t with⟨_,e⟩|⟨_,_,e⟩|⟨_,_,k,_,e⟩|⟨_,h2,h3,h4,e⟩|⟨_,_,_,_,e⟩<;>rw[e]
 ·exact h
 ·exact h.flag _ _
 ·exact h.flag _ _
 ·exact h.push _ _ h2 (jat h3) h4
 ·exact h.flag _ _
theorem qm9{n:cz}{M i:Nat}{σ:sc}{j:Nat}(hj:j<σ.2.1.length)(t:Nat):dg (uh n M i σ t) j=dg σ j∧σ.2.1.length≤(uh n M i σ t).2.1.length:=by
 rcases pi n M i σ t with⟨_,e⟩|⟨_,_,e⟩|⟨_,_,k,_,e⟩|⟨_,h2,h3,h4,e⟩|⟨_,_,_,_,e⟩<;>rw[e]
 ·exact⟨rfl,Nat.le_refl _⟩
 ·exact⟨rfl,Nat.le_refl _⟩
 ·exact⟨rfl,Nat.le_refl _⟩
 ·exact⟨qlj _ _ _ _ hj,by simp⟩
 ·exact⟨rfl,Nat.le_refl _⟩
theorem jck(n:cz)(M i:Nat)(σ:sc)(t:Nat):(uh n M i σ t).2.2.length≤σ.2.2.length+1:=by
 rcases pi n M i σ t with⟨_,e⟩|⟨_,_,e⟩|⟨_,_,k,_,e⟩|⟨_,h2,h3,h4,e⟩|⟨_,_,_,_,e⟩<;>rw[e]<;>simp
theorem qz{n:cz}{M i:Nat}:∀(l:List Nat) {σ:sc},SpI n M σ→SpI n M (ls n M i l σ)∧(∀j,j<σ.2.1.length→dg (ls n M i l σ) j=dg σ j)∧σ.2.1.length≤(ls n M i l σ).2.1.length∧(ls n M i l σ).2.2.length≤σ.2.2.length+l.length
 |[],σ,h=>⟨h,fun _ _=>rfl,Nat.le_refl _,Nat.le_refl _⟩
 |t::l,σ,h=>by
  obtain⟨h1,h2,h3,h4⟩:=qz (n:=n) (M:=M) (i:=i) l (h.step (i:=i) t);have h5:=qm9 (n:=n) (M:=M) (i:=i) (σ:=σ) h.pos t;have h6:=jck n M i σ t;refine⟨h1,fun j hj=>(h2 j (by omega)).trans (qm9 hj t).1,Nat.le_trans h5.2 h3,?_⟩;have:(ls n M i (t::l) σ).2.2.length≤(uh n M i σ t).2.2.length+l.length:=h4;simp only[List.length_cons];omega
theorem qhk{n:cz}{M i:Nat}(s:List Int):∀(l:List Nat) {σ:sc},i<σ.2.1.length→dg σ i=s→ls n M i (l.filter fun t=>k7 (trA n t) s) σ=ls n M i l σ
 |[],σ,_,_=>rfl
 |t::l,σ,hi,hs=>by
  have h1:=qm9 (n:=n) (M:=M) (i:=i) hi t;cases hc:k7 (trA n t) s with
  |true=>
   rw[List.filter_cons_of_pos (by rw[hc])];exact qhk s l (Nat.lt_of_lt_of_le hi h1.2) (h1.1.trans hs)
  |false=>
   rw[List.filter_cons_of_neg (by rw[hc];decide)];have:uh n M i σ t=σ:=by
    rcases pi n M i σ t with⟨_,e⟩|⟨h,_⟩|⟨h,_⟩|⟨h,_⟩|⟨h,_⟩
    ·exact e
    all_goals rw[hs,hc]at h;cases h
   show _=ls n M i l (uh n M i σ t);rw[this];exact qhk s l hi hs
def jbz(k:ByteArray)(x:Int)(a:List (ByteArray×Int)):List (ByteArray×Int):=tu .str k x a
def qx8(st:List (List Int)):List (ByteArray×Int):=(List.range st.length).foldl (fun a i=>jbz (qlo (st.getD i [])) (i:Int) a) []
theorem q21{α:Type}{P:List α→Prop}(h0:P [])(h1:∀l x,P l→P (l++[x]))(l:List α):P l:=by
 have h:∀l:List α,P l.reverse:=fun l=>by
  induction l with
  |nil=>exact h0
  |cons x l ih=>rw[List.reverse_cons];exact h1 _ _ ih
 rw[←List.reverse_reverse l];exact h _
theorem qli{α β:Type}{f g:β→α→β}:∀(l:List α) (b:β),(∀b a,a∈l→f b a=g b a)→l.foldl f b=l.foldl g b
 |[],_,_=>rfl
 |a::l,b,h=>by
  rw[List.foldl_cons,List.foldl_cons,h b a List.mem_cons_self];exact qli l _ fun b a ha=>h b a (List.mem_cons_of_mem _ ha)
theorem qws(st:List (List Int))(x:List Int):qx8 (st++[x])=jbz (qlo x) (st.length:Int) (qx8 st):=by
 unfold qx8;rw[List.length_append,List.length_cons,List.length_nil,List.range_succ,List.foldl_append,List.foldl_cons,List.foldl_nil,qw9];exact congrArg _ (qli _ _ fun b a ha=>by rw[qlj _ _ _ _ (List.mem_range.1 ha)])
theorem qw4{α:Type}(q:α→Bool):∀(l:List α) (x:α),kl q (l++[x])=match kl q l with|some i=>some i|none=>bif q x then some l.length else none
 |[],x=>by
  show(bif q x then some 0 else _)=_;cases q x<;>rfl
 |y::l,x=>by
  show(bif q y then some 0 else(kl q (l++[x])).map (·+1))=match(bif q y then some 0 else(kl q l).map (·+1))with|some i=>some i|none=>_
  rw[qw4 q l x];cases q y with
  |true=>rfl
  |false=>
   cases kl q l with
   |some i=>rfl
   |none=>cases q x<;>rfl
theorem qnm{N:Int}(x:List Int)(hx:df N x=true):∀st:List (List Int),(∀y∈st,df N y=true)→st.Nodup→cb .str (qlo x) (qx8 st)=Option.map (fun i:Nat=>(i:Int)) (kl (fun y:List Int=>decide (y=x)) st):=by
 intro st;refine q21 (P:=fun st:List (List Int)=>(∀y∈st,df N y=true)→st.Nodup→cb .str (qlo x) (qx8 st)=Option.map (fun i:Nat=>(i:Int)) (kl (fun y:List Int=>decide (y=x)) st)) (fun _ _=>rfl) (fun st y ih=> ?_) st
 ·intro hm hn;rw[qws,qw4];unfold jbz;rw[qxi];have hn' :=List.nodup_append.1 hn;have ih:=ih (fun z hz=>hm z (List.mem_append_left _ hz)) hn'.1;by_cases e:y=x
  ·subst e;have h0:kl (fun z:List Int=>decide (z=y)) st=none:=by
    cases hf:kl (fun z:List Int=>decide (z=y)) st with
    |none=>rfl
    |some i=>
     obtain⟨h1,h2,_⟩:=uj [] hf;exact absurd (of_decide_eq_true h2) (hn'.2.2 _ (ba [] h1) _ (List.mem_singleton.2 rfl))
   rw[h0,qu6];simp
  ·have h1:xa (qlo x) (qlo y)=false:=by
    cases hs:xa (qlo x) (qlo y)with
    |false=>rfl
    |true=>exact absurd (ja9 hx (hm y (List.mem_append_right _ (List.mem_singleton.2 rfl))) (q28 hs)).symm e
   rw[h1,ih];simp only[cond_false,decide_eq_false e];cases kl (fun z:List Int=>decide (z=x)) st<;>rfl
end Go.Proofs.Ytokeielgplbdeaa
