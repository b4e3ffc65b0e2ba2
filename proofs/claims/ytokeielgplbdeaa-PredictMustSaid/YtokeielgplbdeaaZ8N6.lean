/-
  Predict: what a space is.
-/
import Derived.Test.YtokeielgplbdeaaZ8N5
set_option linter.all false
namespace Go.Proofs.Ytokeielgplbdeaa
open Go.K Go.M
def jav(a b:aq):Prop:=a.1<b.1∨a.1=b.1∧a.2.2.1<b.2.2.1
structure GI (n : cj) (M : Nat) (m : List Int) (i d : Nat) (σ : pb) : Prop where
 sp : SpI n M σ
 mv : ∀ x ∈ σ.2.2, ∃ a b t, x = mvA a b t ∧ (a < i ∨ a = i ∧ t < d) ∧ a < σ.2.1.length ∧ b < σ.2.1.length ∧ t < n.2.1.length ∧ jm (oi n t) (c7 σ a) = true ∧ ca (oi n t) (c7 σ a) = c7 σ b
 srt : σ.2.2.Pairwise jav
 full : σ.1 = true → ∀ a t, (a < i ∨ a = i ∧ t < d) → a < σ.2.1.length → t < n.2.1.length → jm (oi n t) (c7 σ a) = true → ∃ b, mvA a b t ∈ σ.2.2
 rch : ∀ j, 0 < j → j < σ.2.1.length → ∃ a t, a < j ∧ mvA a j t ∈ σ.2.2
 fst : c7 σ 0 = m
 ml : σ.2.2.length ≤ i * n.2.1.length + d
theorem jdw{a b t a' b' t' :Nat}(h:mvA a b t=mvA a' b' t'):a=a' ∧b=b' ∧t=t' :=by
 unfold mvA at h;injection h with h1 h2
 injection h2 with h2 h3
 injection h3 with h3 h4
 omega
theorem GI.ex{n:cj}{M:Nat}{m:List Int}{i d:Nat}{σ:pb}(h:GI n M m i d σ){st:List (List Int)}{b0:Nat}(hi:i<σ.2.1.length)(ht:d<n.2.1.length)(hst:∀j,j<σ.2.1.length→st.getD j []=c7 σ j)(hlen:σ.2.1.length≤st.length)(hb:b0<st.length)(hc:jm (oi n d) (c7 σ i)=true)(hf:ca (oi n d) (c7 σ i)=st.getD b0 []):
  (∀x∈σ.2.2++[mvA i b0 d],∃a b t,x=mvA a b t∧(a<i∨a=i∧t<d+1)∧a<st.length∧b<st.length∧t<n.2.1.length∧jm (oi n t) (st.getD a [])=true∧ca (oi n t) (st.getD a [])=st.getD b [])∧(σ.2.2++[mvA i b0 d]).Pairwise jav:=by
 refine⟨fun x hx=> ?_,List.pairwise_append.2 ⟨h.srt,List.pairwise_singleton _ _,fun x hx y hy=> ?_⟩⟩
 ·rcases List.mem_append.1 hx with hx|hx
  ·obtain⟨a,b,t,e,h1,h2,h3,h4,h5,h6⟩:=h.mv x hx;exact⟨a,b,t,e,by omega,by omega,by omega,h4,by rw[hst a h2];exact h5,by rw[hst a h2,hst b h3];exact h6⟩
  ·rw[List.mem_singleton.1 hx];exact⟨i,b0,d,rfl,by omega,by omega,hb,ht,by rw[hst i hi];exact hc,by rw[hst i hi];exact hf⟩
 ·obtain⟨a,b,t,rfl,h1,_⟩:=h.mv x hx;rw[List.mem_singleton.1 hy];unfold jav mvA;simp only[];omega
theorem GI.step{n:cj}{M:Nat}{m:List Int}{i d:Nat}{σ:pb}(h:GI n M m i d σ)(hi:i<σ.2.1.length)(ht:d<n.2.1.length):GI n M m i (d+1) (td n M i σ d):=by
 have hsp:=h.sp.step (i:=i) d;rcases nk n M i σ d with⟨g1,e⟩|⟨g1,g2,e⟩|⟨g1,g2,q,g3,e⟩|⟨g1,g2,g3,g4,e⟩|⟨g1,g2,g3,g4,e⟩<;>rw[e]at hsp⊢
 ·refine⟨hsp,fun x hx=> ?_,h.srt,fun hf a t hat ha ht' hc=> ?_,h.rch,h.fst,by have:=h.ml;omega⟩
  ·obtain⟨a,b,t,e,h1,h2⟩:=h.mv x hx;exact⟨a,b,t,e,by omega,h2⟩
  ·by_cases hd:a=i∧t=d
   ·obtain⟨rfl,rfl⟩:=hd;rw[g1]at hc;cases hc
   ·exact h.full hf a t (by omega) ha ht' hc
 ·refine⟨hsp,fun x hx=> ?_,h.srt,(fun hf=>by cases hf),h.rch,h.fst,by have:=h.ml;show σ.2.2.length≤_;omega⟩;obtain⟨a,b,t,e,h1,h2⟩:=h.mv x hx;exact⟨a,b,t,e,by omega,h2⟩
 ·obtain⟨q1,q2⟩:=q9y g3;obtain⟨m1,m2⟩:=h.ex (st:=σ.2.1) (b0:=q) hi ht (fun _ _=>rfl) (Nat.le_refl _) q1 g1 q2.symm;refine⟨hsp,m1,m2,fun hf a t hat ha ht' hc=> ?_,fun j h0 hj=> ?_,h.fst,by have:=h.ml;simp only[List.length_append,List.length_cons,List.length_nil];omega⟩
  ·by_cases hd:a=i∧t=d
   ·obtain⟨rfl,rfl⟩:=hd;exact⟨q,List.mem_append_right _ (List.mem_singleton.2 rfl)⟩
   ·obtain⟨b,hb⟩:=h.full hf a t (by omega) ha ht' hc;exact⟨b,List.mem_append_left _ hb⟩
  ·obtain⟨a,t,h1,h2⟩:=h.rch j h0 hj;exact⟨a,t,h1,List.mem_append_left _ h2⟩
 ·have hst:∀j,j<σ.2.1.length→(σ.2.1++[ca (oi n d) (c7 σ i)]).getD j []=c7 σ j:=fun j hj=>qln _ _ _ _ hj
  obtain⟨m1,m2⟩:=h.ex (st:=σ.2.1++[ca (oi n d) (c7 σ i)]) (b0:=σ.2.1.length) hi ht hst (by simp) (by simp) g1 (qvy _ _ _).symm;refine⟨hsp,m1,m2,fun hf a t hat ha ht' hc=> ?_,fun j h0 hj=> ?_,(hst 0 h.sp.pos).trans h.fst,by have:=h.ml;simp only[List.length_append,List.length_cons,List.length_nil];omega⟩
  ·by_cases hd:a=i∧t=d
   ·obtain⟨rfl,rfl⟩:=hd;exact⟨_,List.mem_append_right _ (List.mem_singleton.2 rfl)⟩
   ·have ha' :a<σ.2.1.length:=by omega
    have hc' :jm (oi n t) (c7 σ a)=true:=by rw[←hst a ha'];exact hc
    obtain⟨b,hb⟩:=h.full hf a t (by omega) ha' ht' hc';exact⟨b,List.mem_append_left _ hb⟩
  ·by_cases hjl:j<σ.2.1.length
   ·obtain⟨a,t,h1,h2⟩:=h.rch j h0 hjl;exact⟨a,t,h1,List.mem_append_left _ h2⟩
   ·have:j=σ.2.1.length:=by simp only[List.length_append,List.length_cons,List.length_nil]at hj;omega
    subst this;exact⟨i,d,hi,List.mem_append_right _ (List.mem_singleton.2 rfl)⟩
 ·refine⟨hsp,fun x hx=> ?_,h.srt,(fun hf=>by cases hf),h.rch,h.fst,by have:=h.ml;show σ.2.2.length≤_;omega⟩;obtain⟨a,b,t,e,h1,h2⟩:=h.mv x hx;exact⟨a,b,t,e,by omega,h2⟩
theorem GI.row{n:cj}{M:Nat}{m:List Int}{i:Nat}{σ:pb}(h:GI n M m i 0 σ)(hi:i<σ.2.1.length):GI n M m (i+1) 0 (ll n M i (List.range n.2.1.length) σ):=by
 have key:∀d,d≤n.2.1.length→GI n M m i d (ll n M i (List.range d) σ)∧i<(ll n M i (List.range d) σ).2.1.length:=fun d=>by
  induction d with
  |zero=>intro _;exact⟨h,hi⟩
  |succ d ih=>
   intro hd;obtain⟨h1,h2⟩:=ih (by omega);have e1:ll n M i (List.range (d+1)) σ=td n M i (ll n M i (List.range d) σ) d:=by
    rw[List.range_succ];unfold ll;rw[List.foldl_append];rfl
   rw[e1];exact⟨h1.step h2 (by omega),Nat.lt_of_lt_of_le h2 (qh8 h2 d).2⟩
 obtain⟨h1,_⟩:=key n.2.1.length (Nat.le_refl _);refine⟨h1.sp,fun x hx=> ?_,h1.srt,fun hf a t hat ha ht hc=>h1.full hf a t (by omega) ha ht hc,h1.rch,h1.fst,by have:=h1.ml;rw[Nat.add_mul];omega⟩;obtain⟨a,b,t,e,g1,g2⟩:=h1.mv x hx;exact⟨a,b,t,e,by omega,g2⟩
theorem GI.expl{n:cj}{M:Nat}{m:List Int}:∀(f i:Nat) {σ:pb},GI n M m i 0 σ→i≤σ.2.1.length→M<f+i→∃k,GI n M m k 0 (tn n M f i σ)∧k=(tn n M f i σ).2.1.length
 |0,i,σ,h,hi,hf=>⟨i,h,by have:=h.sp.len;show i=σ.2.1.length;omega⟩
 |f+1,i,σ,h,hi,hf=>by
  unfold tn;by_cases hlt:i<σ.2.1.length
  ·rw[if_pos hlt];have:=(pt (n:=n) (M:=M) (i:=i) (List.range n.2.1.length) h.sp).2.2.1;exact GI.expl f (i+1) (h.row hlt) (by omega) (by omega)
  ·rw[if_neg hlt];exact⟨i,h,by omega⟩
structure SpcOK (n : cj) (M : Nat) (m : List Int) (σ : pb) : Prop where
 sp : SpI n M σ
 mv : ∀ x ∈ σ.2.2, ∃ a b t, x = mvA a b t ∧ a < σ.2.1.length ∧ b < σ.2.1.length ∧ t < n.2.1.length ∧ jm (oi n t) (c7 σ a) = true ∧ ca (oi n t) (c7 σ a) = c7 σ b
 srt : σ.2.2.Pairwise jav
 full : σ.1 = true → ∀ a t, a < σ.2.1.length → t < n.2.1.length → jm (oi n t) (c7 σ a) = true → ∃ b, mvA a b t ∈ σ.2.2
 rch : ∀ j, 0 < j → j < σ.2.1.length → ∃ a t, a < j ∧ mvA a j t ∈ σ.2.2
 fst : c7 σ 0 = m
 ml : σ.2.2.length ≤ M * n.2.1.length
theorem q31{n:cj}{M:Nat}{m:List Int}(hm:c8 n.1 m=true)(hM:1≤M):SpcOK n M m (spc n M m):=by
 have h0:GI n M m 0 0 (jkh m):=by
  refine⟨qq8 hm hM,(fun x hx=>by cases hx),List.Pairwise.nil,fun _ a t hat=>by omega,fun j h0 hj=> ?_,rfl,Nat.zero_le _⟩;have:j<1:=hj;omega
 obtain⟨k,h1,hk⟩:=GI.expl (M+1) 0 h0 (Nat.zero_le _) (by omega);have hlen:=h1.sp.len;refine⟨h1.sp,fun x hx=> ?_,h1.srt,fun hf a t ha ht hc=>h1.full hf a t (by show a<k∨_;rw[hk];exact .inl ha) ha ht hc,h1.rch,h1.fst,Nat.le_trans h1.ml (Nat.mul_le_mul_right _ (by rw[hk];exact hlen))⟩;obtain⟨a,b,t,e,_,g2⟩:=h1.mv x hx;exact⟨a,b,t,e,g2⟩
end Go.Proofs.Ytokeielgplbdeaa
