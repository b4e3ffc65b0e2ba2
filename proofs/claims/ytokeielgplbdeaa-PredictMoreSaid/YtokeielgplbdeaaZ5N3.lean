/-
  Predict: the search of a net's space, in plain Lean.
-/
import Derived.Test.YtokeielgplbdeaaZ5N2
set_option linter.all false
namespace Go.Proofs.Ytokeielgplbdeaa
open Go.K Go.M
abbrev qq:Type:=Bool×List (List Int)×List au
abbrev dj(σ:qq)(i:Nat):List Int:=σ.2.1.getD i []
abbrev trA(n:dr)(t:Nat):aj:=n.2.1.getD t aj.z
def mvA(i k t:Nat):au:=((i:Int),(k:Int),(t:Int),())
def qug(σ:qq)(x:List Int):Option Nat:=kw (fun y:List Int=>decide (y=x)) σ.2.1
def ud(n:dr)(M i:Nat)(σ:qq)(t:Nat):qq:=
 bif kq (trA n t) (dj σ i)then
  bif dg n.1 (da (trA n t) (dj σ i))then
   match qug σ (da (trA n t) (dj σ i))with
   |some k=>(σ.1,σ.2.1,σ.2.2++[mvA i k t])
   |none=>if σ.2.1.length<M then(σ.1,σ.2.1++[da (trA n t) (dj σ i)],σ.2.2++[mvA i σ.2.1.length t])else(false,σ.2.1,σ.2.2)
  else(false,σ.2.1,σ.2.2)
 else σ
abbrev ln(n:dr)(M i:Nat)(l:List Nat)(σ:qq):qq:=l.foldl (ud n M i) σ
def vz(n:dr)(M:Nat):Nat→Nat→qq→qq
 |0,_,σ=>σ
 |f+1,i,σ=>if i<σ.2.1.length then vz n M f (i+1) (ln n M i (List.range n.2.1.length) σ)else σ
theorem pb(n:dr)(M i:Nat)(σ:qq)(t:Nat):
  (kq (trA n t) (dj σ i)=false∧ud n M i σ t=σ)∨
  (kq (trA n t) (dj σ i)=true∧dg n.1 (da (trA n t) (dj σ i))=false∧ud n M i σ t=(false,σ.2.1,σ.2.2))∨
  (kq (trA n t) (dj σ i)=true∧dg n.1 (da (trA n t) (dj σ i))=true∧∃k,qug σ (da (trA n t) (dj σ i))=some k∧ud n M i σ t=(σ.1,σ.2.1,σ.2.2++[mvA i k t]))∨
  (kq (trA n t) (dj σ i)=true∧dg n.1 (da (trA n t) (dj σ i))=true∧qug σ (da (trA n t) (dj σ i))=none∧σ.2.1.length<M∧ud n M i σ t=(σ.1,σ.2.1++[da (trA n t) (dj σ i)],σ.2.2++[mvA i σ.2.1.length t]))∨
  (kq (trA n t) (dj σ i)=true∧dg n.1 (da (trA n t) (dj σ i))=true∧qug σ (da (trA n t) (dj σ i))=none∧¬σ.2.1.length<M∧ud n M i σ t=(false,σ.2.1,σ.2.2)):=by
 unfold ud;cases h1:kq (trA n t) (dj σ i)with
 |false=>exact .inl ⟨rfl,rfl⟩
 |true=>
  cases h2:dg n.1 (da (trA n t) (dj σ i))with
  |false=>exact .inr (.inl ⟨rfl,rfl,rfl⟩)
  |true=>
   cases h3:qug σ (da (trA n t) (dj σ i))with
   |some k=>exact .inr (.inr (.inl ⟨rfl,rfl,k,rfl,rfl⟩))
   |none=>
    by_cases h4:σ.2.1.length<M
    ·refine .inr (.inr (.inr (.inl ⟨rfl,rfl,rfl,h4,?_⟩)));simp only[cond_true,if_pos h4]
    ·refine .inr (.inr (.inr (.inr ⟨rfl,rfl,rfl,h4,?_⟩)));simp only[cond_true,if_neg h4]
theorem q5t{σ:qq}{x:List Int}{k:Nat}(h:qug σ x=some k):k<σ.2.1.length∧dj σ k=x:=by
 obtain⟨h1,h2,_⟩:=uf [] h;exact⟨h1,of_decide_eq_true h2⟩
theorem q5s{σ:qq}{x:List Int}(h:qug σ x=none):x∉σ.2.1:=fun hx=>by
 have:=qba h x hx;exact absurd rfl (of_decide_eq_false this)
theorem qju{α:Type}(l:List α)(x d:α)(i:Nat)(h:i<l.length):(l++[x]).getD i d=l.getD i d:=by
 rw[List.getD_eq_getElem?_getD,List.getD_eq_getElem?_getD,List.getElem?_append_left h]
theorem qsw{α:Type}(l:List α)(x d:α):(l++[x]).getD l.length d=x:=by
 rw[List.getD_eq_getElem?_getD,List.getElem?_append_right (Nat.le_refl _),Nat.sub_self];rfl
structure SpI (n : dr) (M : Nat) (σ : qq) : Prop where
 mks : ∀ x ∈ σ.2.1, dg n.1 x = true
 nd : σ.2.1.Nodup
 len : σ.2.1.length ≤ M
 pos : 0 < σ.2.1.length
theorem SpI.flag{n:dr}{M:Nat}{σ:qq}(h:SpI n M σ)(b:Bool)(mv:List au):SpI n M (b,σ.2.1,mv):=⟨h.mks,h.nd,h.len,h.pos⟩
theorem SpI.push{n:dr}{M:Nat}{σ:qq}(h:SpI n M σ)(b:Bool)(mv:List au){x:List Int}(hx:dg n.1 x=true)(hn:x∉σ.2.1)(hl:σ.2.1.length<M):SpI n M (b,σ.2.1++[x],mv):=by
 refine⟨fun y hy=> ?_,?_,by simp;omega,by simp⟩
 ·rcases List.mem_append.1 hy with hy|hy
  ·exact h.mks y hy
  ·rw[List.mem_singleton.1 hy];exact hx
 ·exact List.nodup_append.2 ⟨h.nd,by simp,fun a ha b hb=>by rw[List.mem_singleton.1 hb];exact fun e=>hn (e▸ha)⟩
theorem SpI.step{n:dr}{M i:Nat}{σ:qq}(h:SpI n M σ)(t:Nat):SpI n M (ud n M i σ t):=by
 rcases pb n M i σ t with⟨_,e⟩|⟨_,_,e⟩|⟨_,_,k,_,e⟩|⟨_,h2,h3,h4,e⟩|⟨_,_,_,_,e⟩<;>rw[e]
 ·exact h
 ·exact h.flag _ _
 ·exact h.flag _ _
 ·exact h.push _ _ h2 (q5s h3) h4
 ·exact h.flag _ _
theorem qk7{n:dr}{M i:Nat}{σ:qq}{j:Nat}(hj:j<σ.2.1.length)(t:Nat):dj (ud n M i σ t) j=dj σ j∧σ.2.1.length≤(ud n M i σ t).2.1.length:=by
 rcases pb n M i σ t with⟨_,e⟩|⟨_,_,e⟩|⟨_,_,k,_,e⟩|⟨_,h2,h3,h4,e⟩|⟨_,_,_,_,e⟩<;>rw[e]
 ·exact⟨rfl,Nat.le_refl _⟩
 ·exact⟨rfl,Nat.le_refl _⟩
 ·exact⟨rfl,Nat.le_refl _⟩
 ·exact⟨qju _ _ _ _ hj,by simp⟩
 ·exact⟨rfl,Nat.le_refl _⟩
theorem q7l(n:dr)(M i:Nat)(σ:qq)(t:Nat):(ud n M i σ t).2.2.length≤σ.2.2.length+1:=by
 rcases pb n M i σ t with⟨_,e⟩|⟨_,_,e⟩|⟨_,_,k,_,e⟩|⟨_,h2,h3,h4,e⟩|⟨_,_,_,_,e⟩<;>rw[e]<;>simp
theorem qy{n:dr}{M i:Nat}:∀(l:List Nat) {σ:qq},SpI n M σ→SpI n M (ln n M i l σ)∧(∀j,j<σ.2.1.length→dj (ln n M i l σ) j=dj σ j)∧σ.2.1.length≤(ln n M i l σ).2.1.length∧(ln n M i l σ).2.2.length≤σ.2.2.length+l.length
 |[],σ,h=>⟨h,fun _ _=>rfl,Nat.le_refl _,Nat.le_refl _⟩
 |t::l,σ,h=>by
  obtain⟨h1,h2,h3,h4⟩:=qy (n:=n) (M:=M) (i:=i) l (h.step (i:=i) t);have h5:=qk7 (n:=n) (M:=M) (i:=i) (σ:=σ) h.pos t;have h6:=q7l n M i σ t;refine⟨h1,fun j hj=>(h2 j (by omega)).trans (qk7 hj t).1,Nat.le_trans h5.2 h3,?_⟩;have:(ln n M i (t::l) σ).2.2.length≤(ud n M i σ t).2.2.length+l.length:=h4;simp only[List.length_cons];omega
theorem qgh{n:dr}{M i:Nat}(s:List Int):∀(l:List Nat) {σ:qq},i<σ.2.1.length→dj σ i=s→ln n M i (l.filter fun t=>kq (trA n t) s) σ=ln n M i l σ
 |[],σ,_,_=>rfl
 |t::l,σ,hi,hs=>by
  have h1:=qk7 (n:=n) (M:=M) (i:=i) hi t;cases hc:kq (trA n t) s with
  |true=>
   rw[List.filter_cons_of_pos (by rw[hc])];exact qgh s l (Nat.lt_of_lt_of_le hi h1.2) (h1.1.trans hs)
  |false=>
   rw[List.filter_cons_of_neg (by rw[hc];decide)];have:ud n M i σ t=σ:=by
    rcases pb n M i σ t with⟨_,e⟩|⟨h,_⟩|⟨h,_⟩|⟨h,_⟩|⟨h,_⟩
    ·exact e
    all_goals rw[hs,hc]at h;cases h
   show _=ln n M i l (ud n M i σ t);rw[this];exact qgh s l hi hs
def q6y(k:ByteArray)(x:Int)(a:List (ByteArray×Int)):List (ByteArray×Int):=tk .str k x a
def qtw(st:List (List Int)):List (ByteArray×Int):=(List.range st.length).foldl (fun a i=>q6y (qjz (st.getD i [])) (i:Int) a) []
theorem qx3{α:Type}{P:List α→Prop}(h0:P [])(h1:∀l x,P l→P (l++[x]))(l:List α):P l:=by
 have h:∀l:List α,P l.reverse:=fun l=>by
  induction l with
  |nil=>exact h0
  |cons x l ih=>rw[List.reverse_cons];exact h1 _ _ ih
 rw[←List.reverse_reverse l];exact h _
theorem qjt{α β:Type}{f g:β→α→β}:∀(l:List α) (b:β),(∀b a,a∈l→f b a=g b a)→l.foldl f b=l.foldl g b
 |[],_,_=>rfl
 |a::l,b,h=>by
  rw[List.foldl_cons,List.foldl_cons,h b a List.mem_cons_self];exact qjt l _ fun b a ha=>h b a (List.mem_cons_of_mem _ ha)
theorem qsh(st:List (List Int))(x:List Int):qtw (st++[x])=q6y (qjz x) (st.length:Int) (qtw st):=by
 unfold qtw;rw[List.length_append,List.length_cons,List.length_nil,List.range_succ,List.foldl_append,List.foldl_cons,List.foldl_nil,qsw];exact congrArg _ (qjt _ _ fun b a ha=>by rw[qju _ _ _ _ (List.mem_range.1 ha)])
theorem qsr{α:Type}(q:α→Bool):∀(l:List α) (x:α),kw q (l++[x])=match kw q l with|some i=>some i|none=>bif q x then some l.length else none
 |[],x=>by
  show(bif q x then some 0 else _)=_;cases q x<;>rfl
 |y::l,x=>by
  show(bif q y then some 0 else(kw q (l++[x])).map (·+1))=match(bif q y then some 0 else(kw q l).map (·+1))with|some i=>some i|none=>_
  rw[qsr q l x];cases q y with
  |true=>rfl
  |false=>
   cases kw q l with
   |some i=>rfl
   |none=>cases q x<;>rfl
theorem qlk{N:Int}(x:List Int)(hx:dg N x=true):∀st:List (List Int),(∀y∈st,dg N y=true)→st.Nodup→ci .str (qjz x) (qtw st)=Option.map (fun i:Nat=>(i:Int)) (kw (fun y:List Int=>decide (y=x)) st):=by
 intro st;refine qx3 (P:=fun st:List (List Int)=>(∀y∈st,dg N y=true)→st.Nodup→ci .str (qjz x) (qtw st)=Option.map (fun i:Nat=>(i:Int)) (kw (fun y:List Int=>decide (y=x)) st)) (fun _ _=>rfl) (fun st y ih=> ?_) st
 ·intro hm hn;rw[qsh,qsr];unfold q6y;rw[qs6];have hn' :=List.nodup_append.1 hn;have ih:=ih (fun z hz=>hm z (List.mem_append_left _ hz)) hn'.1;by_cases e:y=x
  ·subst e;have h0:kw (fun z:List Int=>decide (z=y)) st=none:=by
    cases hf:kw (fun z:List Int=>decide (z=y)) st with
    |none=>rfl
    |some i=>
     obtain⟨h1,h2,_⟩:=uf [] hf;exact absurd (of_decide_eq_true h2) (hn'.2.2 _ (ba [] h1) _ (List.mem_singleton.2 rfl))
   rw[h0,qrd];simp
  ·have h1:wu (qjz x) (qjz y)=false:=by
    cases hs:wu (qjz x) (qjz y)with
    |false=>rfl
    |true=>exact absurd (q58 hx (hm y (List.mem_append_right _ (List.mem_singleton.2 rfl))) (qya hs)).symm e
   rw[h1,ih];simp only[cond_false,decide_eq_false e];cases kw (fun z:List Int=>decide (z=x)) st<;>rfl
end Go.Proofs.Ytokeielgplbdeaa
