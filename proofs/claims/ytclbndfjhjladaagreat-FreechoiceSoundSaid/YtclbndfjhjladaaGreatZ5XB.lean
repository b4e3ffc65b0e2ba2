/-
  Free-choice nets in plain Lean: the rank theorem: live and bounded nets. No program is named.
-/
import Derived.Test.YtclbndfjhjladaaGreatZ5XA
set_option linter.all false
namespace Go.M.FC
open Go.K Go.M
variable {N T K : Nat} {I O : Nat → Nat → Prop} [∀ t p, Decidable (I t p)] [∀ t p, Decidable (O t p)] {cp ct : Nat → Nat}
def enc(R:Nat)(f:Nat→Nat):Nat→Nat
 |0=>0
 |n+1=>enc R f n+f n*R ^ n
theorem jbn{R:Nat}{f:Nat→Nat}:∀n,(∀q,q<n→f q<R)→enc R f n<R ^ n
 |0,_=>by simp[enc]
 |n+1,h=>by
  have h1:=jbn n fun q hq=>h q (by omega)
  have h2:(f n+1)*R ^ n≤R*R ^ n:=Nat.mul_le_mul_right _ (h n (by omega));rw[Nat.add_mul,Nat.one_mul]at h2;show enc R f n+f n*R ^ n<R ^ (n+1);rw[Nat.pow_succ,Nat.mul_comm (R ^ n)];omega
theorem jjv{R:Nat}{f g:Nat→Nat}:∀n,(∀q,q<n→f q<R)→(∀q,q<n→g q<R)→enc R f n=enc R g n→∀q,q<n→f q=g q
 |0,_,_,_,q,hq=>by omega
 |n+1,hf,hg,h,q,hq=>by
  have h1:=jbn n fun q hq=>hf q (by omega)
  have h2:=jbn n fun q hq=>hg q (by omega)
  have h:enc R f n+f n*R ^ n=enc R g n+g n*R ^ n:=h;have hpos:0<R ^ n:=by omega
  have e1:(enc R f n+f n*R ^ n)/R ^ n=f n:=by rw[Nat.add_mul_div_right _ _ hpos,Nat.div_eq_of_lt h1,Nat.zero_add]
  have e2:(enc R g n+g n*R ^ n)/R ^ n=g n:=by rw[Nat.add_mul_div_right _ _ hpos,Nat.div_eq_of_lt h2,Nat.zero_add]
  have e3:f n=g n:=by rw[←e1,←e2,h]
  by_cases e:q=n
  ·rw[e];exact e3
  ·exact jjv n (fun q hq=>hf q (by omega)) (fun q hq=>hg q (by omega)) (by rw[e3]at h;omega) q (by omega)
theorem jqh:∀(B:Nat) (f:Nat→Nat),(∀i,i≤B→f i<B)→∃i j,i<j∧j≤B∧f i=f j
 |0,f,h=>by have:=h 0 (Nat.le_refl _);omega
 |B+1,f,h=>by
  by_cases hc:∃i,i≤B∧f i=f (B+1)
  ·obtain⟨i,hi,e⟩:=hc;exact⟨i,B+1,by omega,Nat.le_refl _,e⟩
  ·obtain⟨i,j,h1,h2,h3⟩:=jqh B (fun i=>if f i=B then f (B+1)else f i) fun i hi=>by
    have a1:=h i (by omega);have a2:=h (B+1) (Nat.le_refl _);have a3:f i≠f (B+1):=fun e=>hc ⟨i,hi,e⟩
    split<;>omega
   have b1:f i≠f (B+1):=fun e=>hc ⟨i,by omega,e⟩
   have b2:f j≠f (B+1):=fun e=>hc ⟨j,h2,e⟩
   refine⟨i,j,h1,by omega,?_⟩;split at h3<;>split at h3<;>omega
theorem q7x(f:Nat→Int)(a:Nat):∀b,af f (a+b)=af f a+af (fun k=>f (a+k)) b
 |0=>by simp[af]
 |b+1=>by
  show af f (a+b)+f (a+b)=_;rw[q7x f a b];simp only[af];omega
def fw(T:Nat)(ct:Nat→Nat)(t1 j:Nat):List Nat:=(List.range T).filter (fun t=>decide (ct t=j))++(if ct t1=j then [t1]else [])
theorem jap{t1 j t:Nat}(ht1:t1<T)(h:t∈fw T ct t1 j):t<T∧ct t=j:=by
 unfold fw at h;rcases List.mem_append.1 h with h|h
 ·simpa using h
 ·split at h
  ·rw[List.mem_singleton.1 h];exact⟨ht1,by assumption⟩
  ·cases h
def tms(t1 t:Nat):Int:=if t=t1 then 2 else 1
def ql5(l:List Nat)(t:Nat):Nat→Int:=af fun i=>if l.getD (i % l.length) 0=t then 1 else 0
theorem jpq{l:List Nat}{t:Nat}:ql5 l t l.length=(l.count t:Int):=by
 have key:∀k,k≤l.length→af (fun i=>if l.getD (i % l.length) 0=t then 1 else 0) k=((l.take k).count t:Int):=by
  intro k
  induction k with
  |zero=>intro _;simp[af]
  |succ k ih=>
   intro hk;show af _ k+_=_;dsimp only;rw[ih (by omega),Nat.mod_eq_of_lt (by omega),List.take_succ,List.count_append,List.getElem?_eq_getElem (by omega),List.getD_eq_getElem?_getD,List.getElem?_eq_getElem (by omega)];simp only[Option.getD_some,Option.toList_some,List.count_singleton,beq_iff_eq];split<;>simp
 have:=key l.length (Nat.le_refl _);rw[List.take_length]at this;exact this
theorem jme(l:List Nat)(t k:Nat):ql5 l t (k+l.length)=ql5 l t k+(l.count t:Int):=by
 induction k with
 |zero=>rw[Nat.zero_add,jpq];simp[ql5,af]
 |succ k ih=>
  rw[show k+1+l.length=(k+l.length)+1 by omega];show ql5 l t (k+l.length)+_=ql5 l t k+_+_;dsimp only;rw[ih,Nat.add_mod_right];omega
theorem q9n(l:List Nat)(t k:Nat):∀v:Nat,ql5 l t (k+v*l.length)=ql5 l t k+(v:Int)*(l.count t:Int)
 |0=>by simp
 |v+1=>by
  rw[show k+(v+1)*l.length=(k+v*l.length)+l.length by rw[Nat.add_mul,Nat.one_mul,Nat.add_assoc],jme,q9n l t k v];rw[show((v+1:Nat):Int)=(v:Int)+1 by omega,Int.add_mul];omega
theorem q0x:∀(T t:Nat),t<T→(List.range T).count t=1
 |0,t,h=>by omega
 |T+1,t,h=>by
  rw[List.range_succ,List.count_append,List.count_singleton];by_cases e:T=t
  ·subst e;have:(List.range T).count T=0:=List.count_eq_zero.2 (by simp);rw[this];simp
  ·rw[q0x T t (by omega)];simp[e]
theorem jgf{t1 t:Nat}(ht1:t1<T)(ht:t<T):((fw T ct t1 (ct t)).count t:Int)=tms t1 t:=by
 have e1:((List.range T).filter (fun u=>decide (ct u=ct t))).count t=1:=by
  rw[List.count_filter (by simp),q0x T t ht]
 unfold fw tms;rw[List.count_append,e1];by_cases e:t=t1
 ·subst e;simp
 ·rw[if_neg e];split
  ·rw[List.count_singleton];simp[show¬t1=t from fun h=>e h.symm]
  ·rfl
def mkT(I O:Nat→Nat→Prop)[∀t p,Decidable (I t p)][∀t p,Decidable (O t p)](T:Nat)(ct:Nat→Nat)(t1:Nat)(m:Nat→Int)(k:Nat→Nat):Nat→Int:=
 fun p=>m p+af (fun t=>ql5 (fw T ct t1 (ct t)) t (k (ct t))*inc I O t p) T
theorem jqd{t1:Nat}(ht1:t1<T){m:Nat→Int}{k:Nat→Nat}{j:Nat}(hl:0<(fw T ct t1 j).length):
  mkT I O T ct t1 m (fun i=>if i=j then k j+1 else k i)=fire I O (mkT I O T ct t1 m k) ((fw T ct t1 j).getD (k j % (fw T ct t1 j).length) 0):=by
 funext p;generalize hu:(fw T ct t1 j).getD (k j % (fw T ct t1 j).length) 0=u;have hmem:u∈fw T ct t1 j:=by
  rw[←hu,List.getD_eq_getElem?_getD,List.getElem?_eq_getElem (Nat.mod_lt _ hl),Option.getD_some];exact List.getElem_mem _
 obtain⟨hu1,hu2⟩:=jap ht1 hmem;have e:af (fun t=>ql5 (fw T ct t1 (ct t)) t (if ct t=j then k j+1 else k (ct t))*inc I O t p) T=af (fun t=>ql5 (fw T ct t1 (ct t)) t (k (ct t))*inc I O t p) T+inc I O u p:=by
  have e1:af (fun t=>if t=u then inc I O u p else 0) T=inc I O u p:=by rw[fc hu1 fun k hk hne=>if_neg hne,if_pos rfl]
  rw[←e1,←sn];refine aj fun t ht=> ?_
  by_cases h1:ct t=j
  ·rw[if_pos h1,h1];show(ql5 (fw T ct t1 j) t (k j)+(if(fw T ct t1 j).getD (k j % (fw T ct t1 j).length) 0=t then 1 else 0))*_=_;rw[hu];by_cases h2:t=u
   ·rw[if_pos h2.symm,if_pos h2,h2,Int.add_mul,Int.one_mul]
   ·rw[if_neg fun h=>h2 h.symm,if_neg h2];simp
  ·rw[if_neg h1,if_neg fun h' =>h1 (by rw[h'];exact hu2)];omega
 show m p+af _ T=(m p+af _ T)-_+_;rw[e];unfold inc;omega
section
variable (h : Cl N T K I cp ct) (hsc : SC N T K O cp ct) {m : Nat → Int} (hm : ∀ p, p < N → 0 ≤ m p) (hlive : Live N T I O m) {Bd : Nat} (hbd : ∀ y, Rea N T I O m y → ∀ p, p < N → y p ≤ Bd)
include h hsc hm hlive hbd
theorem jq9{t1:Nat}(ht1:t1<T):∃v:Nat→Int,(∀j,j<K→0<v j)∧TInv N T I O fun t=>v (ct t)*tms t1 t:=by
 have hlen:∀j,j<K→0<(fw T ct t1 j).length:=fun j hj=>by
  obtain⟨t,ht,e⟩:=h.tr j hj;have:t∈fw T ct t1 j:=List.mem_append.2 (.inl (List.mem_filter.2 ⟨List.mem_range.2 ht,by simpa using e⟩));exact List.length_pos_of_mem this
 have hpick:∀j,j<K→∀k,(fw T ct t1 j).getD (k % (fw T ct t1 j).length) 0<T∧ct ((fw T ct t1 j).getD (k % (fw T ct t1 j).length) 0)=j:=fun j hj k=>by
  refine jap ht1 ?_;rw[List.getD_eq_getElem?_getD,List.getElem?_eq_getElem (Nat.mod_lt _ (hlen j hj)),Option.getD_some];exact List.getElem_mem _
 have hstep:∀s:{k:Nat→Nat//Rea N T I O m (mkT I O T ct t1 m k)},∃s' :{k:Nat→Nat//Rea N T I O m (mkT I O T ct t1 m k)},∃j,j<K∧s'.1=fun i=>if i=j then s.1 j+1 else s.1 i:=fun s=>by
  obtain⟨t,ht,he⟩:∃t,t<T∧En N I (mkT I O T ct t1 m s.1) t:=by
   obtain⟨y,hy,he⟩:=hlive t1 ht1 _ s.2;have first:∀{x y:Nat→Int},Rea N T I O x y→x=y∨∃t,t<T∧En N I x t:=fun{x y} hr=>by
    induction hr with
    |refl=>exact .inl rfl
    |step t _ ht he ih=>
     rcases ih with rfl|h
     ·exact .inr ⟨t,ht,he⟩
     ·exact .inr h
   rcases first hy with e|h'
   ·exact⟨t1,ht1,by rw[e];exact he⟩
   ·exact h'
  have hj:=h.ctK t ht;obtain⟨a1,a2⟩:=hpick (ct t) hj (s.1 (ct t));have he2:=h.en ht a1 a2.symm he;exact⟨⟨fun i=>if i=ct t then s.1 (ct t)+1 else s.1 i,by rw[jqd ht1 (hlen _ hj)];exact .step _ s.2 a1 he2⟩,ct t,hj,rfl⟩
 obtain⟨g,hg⟩:=Classical.axiomOfChoice hstep;have h00:mkT I O T ct t1 m (fun _=>0)=m:=by
  funext p;show m p+af _ T=m p;rw[bw fun t ht=>by simp[ql5,af]];omega
 let seq:Nat→{k:Nat→Nat//Rea N T I O m (mkT I O T ct t1 m k)}:=fun i=>Nat.rec ⟨fun _=>0,by rw[h00];exact .refl⟩ (fun _ s=>g s) i
 have hseq:∀i,∃j,j<K∧(seq (i+1)).1=fun a=>if a=j then(seq i).1 j+1 else(seq i).1 a:=fun i=>hg (seq i)
 have hmono1:∀i a,(seq i).1 a≤(seq (i+1)).1 a:=fun i a=>by
  obtain⟨j,_,e⟩:=hseq i;rw[e];dsimp only;split
  ·rename_i e';rw[e'];omega
  ·exact Nat.le_refl _
 have hmono:∀d i a,(seq i).1 a≤(seq (i+d)).1 a:=fun d i a=>by
  induction d with
  |zero=>exact Nat.le_refl _
  |succ d ih=>exact Nat.le_trans ih (hmono1 _ a)
 obtain⟨R,hR1,hR2⟩:∃R,Bd+1≤R∧∀j,j<K→(fw T ct t1 j).length≤R:=by
  refine⟨Bd+1+(T+1),by omega,fun j hj=> ?_⟩;unfold fw;rw[List.length_append];have:=List.length_filter_le (fun t=>decide (ct t=j)) (List.range T);rw[List.length_range]at this;split<;>simp<;>omega
 have hnn:∀i p,p<N→0≤mkT I O T ct t1 m (seq i).1 p∧mkT I O T ct t1 m (seq i).1 p≤Bd:=fun i p hp=>⟨(seq i).2.nn hm p hp,hbd _ (seq i).2 p hp⟩
 have hdig:∀i q,q<N+K→(fun q=>if q<N then(mkT I O T ct t1 m (seq i).1 q).toNat else(seq i).1 (q-N) % (fw T ct t1 (q-N)).length) q<R:=fun i q hq=>by
  dsimp only;by_cases hqN:q<N
  ·rw[if_pos hqN];have:=hnn i q hqN;omega
  ·rw[if_neg hqN];exact Nat.lt_of_lt_of_le (Nat.mod_lt _ (hlen _ (by omega))) (hR2 _ (by omega))
 obtain⟨i,i',hii,_,heq⟩:=jqh (R ^ (N+K)) (fun i=>enc R (fun q=>if q<N then(mkT I O T ct t1 m (seq i).1 q).toNat else(seq i).1 (q-N) % (fw T ct t1 (q-N)).length) (N+K)) fun i _=>jbn _ (hdig i)
 have hsame:=jjv _ (hdig i) (hdig i') heq;have hmark:∀p,p<N→mkT I O T ct t1 m (seq i).1 p=mkT I O T ct t1 m (seq i').1 p:=fun p hp=>by
  have:=hsame p (by omega);rw[if_pos hp,if_pos hp]at this;have a1:=hnn i p hp;have a2:=hnn i' p hp;omega
 have hle:∀a,(seq i).1 a≤(seq i').1 a:=fun a=>by
  have:=hmono (i' -i) i a;rwa[show i+(i' -i)=i' by omega]at this
 have hv:∀j,∃v:Nat,j<K→(seq i').1 j=(seq i).1 j+v*(fw T ct t1 j).length:=fun j=>by
  by_cases hj:j<K
  ·have:=hsame (N+j) (by omega);rw[if_neg (by omega),if_neg (by omega),show N+j-N=j by omega]at this;have h1:=hle j;refine⟨((seq i').1 j-(seq i).1 j)/(fw T ct t1 j).length,fun _=> ?_⟩;have h2:((seq i').1 j-(seq i).1 j) % (fw T ct t1 j).length=0:=by
    have a1:=Nat.div_add_mod ((seq i').1 j) (fw T ct t1 j).length;have a2:=Nat.div_add_mod ((seq i).1 j) (fw T ct t1 j).length;have a3:(seq i').1 j-(seq i).1 j=(fw T ct t1 j).length*((seq i').1 j/(fw T ct t1 j).length)-(fw T ct t1 j).length*((seq i).1 j/(fw T ct t1 j).length):=by omega
    rw[a3,←Nat.mul_sub];exact Nat.mul_mod_right _ _
   have h3:=Nat.div_add_mod ((seq i').1 j-(seq i).1 j) (fw T ct t1 j).length;rw[h2,Nat.add_zero,Nat.mul_comm]at h3;omega
  ·exact⟨0,fun hj' =>absurd hj' hj⟩
 obtain⟨v,hv⟩:=Classical.axiomOfChoice hv;have hd:∀t,t<T→ql5 (fw T ct t1 (ct t)) t ((seq i').1 (ct t))-ql5 (fw T ct t1 (ct t)) t ((seq i).1 (ct t))=(v (ct t):Int)*tms t1 t:=fun t ht=>by
  rw[hv _ (h.ctK t ht),q9n,jgf ht1 ht];omega
 have hinv:TInv N T I O fun t=>(v (ct t):Int)*tms t1 t:=fun p hp=>by
  have h1:=hmark p hp;have h1:m p+af (fun t=>ql5 (fw T ct t1 (ct t)) t ((seq i).1 (ct t))*inc I O t p) T=m p+af (fun t=>ql5 (fw T ct t1 (ct t)) t ((seq i').1 (ct t))*inc I O t p) T:=h1;have h2:af (fun t=>(v (ct t):Int)*tms t1 t*inc I O t p) T=af (fun t=>ql5 (fw T ct t1 (ct t)) t ((seq i').1 (ct t))*inc I O t p) T-af (fun t=>ql5 (fw T ct t1 (ct t)) t ((seq i).1 (ct t))*inc I O t p) T:=by
   rw[←sumN_sub];exact aj fun t ht=>by rw[←hd t ht,Int.sub_mul]
  show af (fun t=>(v (ct t):Int)*tms t1 t*inc I O t p) T=0;rw[h2];omega
 have hpos:∀t,0<tms t1 t:=fun t=>by unfold tms;split<;>omega
 have hedge:∀a b,Edge N T O cp ct a b→0<v a→0<v b:=by
  rintro a b ⟨t,p,ht,hp,rfl,ho,rfl⟩ hva;have h1:=hinv p hp;rw[bal]at h1;have h2:=sumN_term (n:=T) (f:=fun t=>if O t p then(v (ct t):Int)*tms t1 t else 0) (fun k hk=>by
   have:=Int.mul_nonneg (show(0:Int)≤(v (ct k):Int) by omega) (Int.le_of_lt (hpos k));split<;>omega) t ht
  rw[if_pos ho]at h2;have h3:=Int.mul_pos (show(0:Int)<(v (ct t):Int) by omega) (hpos t);refine Nat.pos_of_ne_zero fun h0=> ?_
  have h4:af (fun t=>if I t p then(v (ct t):Int)*tms t1 t else 0) T=0:=bw fun u hu=>by
   by_cases hi:I u p
   ·rw[if_pos hi,(h.io u p hu hp).1 hi,h0];simp
   ·rw[if_neg hi]
  omega
 obtain⟨j0,hj0,e0⟩:=hseq i;have hv0:0<v j0:=by
  have h1:=hmono (i' -(i+1)) (i+1) j0;have h2:(seq (i+1)).1 j0=(seq i).1 j0+1:=by rw[e0];exact if_pos rfl
  rw[show i+1+(i' -(i+1))=i' by omega,h2,hv j0 hj0]at h1;refine Nat.pos_of_ne_zero fun h0=> ?_
  rw[h0]at h1;omega
 have hpath:∀{n a b:Nat},PathN N T O cp ct n a b→0<v a→0<v b:=by
  intro n a b hp
  induction hp with
  |refl=>exact id
  |step _ he ih=>exact fun ha=>hedge _ _ he (ih ha)
 refine⟨fun j=>(v j:Int),fun j hj=> ?_,hinv⟩;obtain⟨n,hn⟩:=hsc j0 j hj0 hj;have:=hpath hn hv0;show(0:Int)<(v j:Int);omega
theorem pos_inv(hT0:0<T):∃x:Nat→Int,(∀t,t<T→0<x t)∧TInv N T I O x:=by
 obtain⟨v,h1,h2⟩:=jq9 h hsc hm hlive hbd hT0;exact⟨_,fun t ht=>Int.mul_pos (h1 _ (h.ctK t ht)) (by unfold tms;split<;>omega),h2⟩
theorem rank_le(hT0:0<T){r:Nat}(hr:Rk N T I O r):r<K:=by
 refine Classical.byContradiction fun hno=> ?_
 obtain⟨q,ρ,D,B,_,hq,hρ,_,hind⟩:=hr;have hv:∀t1,∃v:Nat→Int,t1<T→(∀j,j<K→0<v j)∧TInv N T I O fun t=>v (ct t)*tms t1 t:=fun t1=>by
  by_cases ht:t1<T
  ·obtain⟨v,hv⟩:=jq9 h hsc hm hlive hbd ht;exact⟨v,fun _=>hv⟩
  ·exact⟨fun _=>0,fun ht' =>absurd ht' ht⟩
 obtain⟨v,hv⟩:=Classical.axiomOfChoice hv;have hτ:∀j,∃t,j<K→t<T∧ct t=j:=fun j=>by
  by_cases hj:j<K
  ·obtain⟨t,ht⟩:=h.tr j hj;exact⟨t,fun _=>ht⟩
  ·exact⟨0,fun hj' =>absurd hj' hj⟩
 obtain⟨τ,hτ⟩:=Classical.axiomOfChoice hτ;have hK:0<K:=Nat.lt_of_le_of_lt (Nat.zero_le _) (h.ctK 0 hT0);obtain⟨z,⟨i1,hi1,hz1⟩,hz⟩:=few (T+(K-1)) (n:=T+r) (by omega) fun i e=>if e<T then(if i<T then v i (ct e)*tms i e else if q (i-T)=e then-1 else 0)else if i=τ (e-T+1)then 1 else 0
 have hx:∀c,c<T→af (fun t=>z t*(v t (ct c)*tms t c)) T=af (fun b=>if q b=c then z (T+b)else 0) r:=fun c hc=>by
  have h1:=hz c (by omega);rw[q7x]at h1;have e1:af (fun i=>z i*(if c<T then(if i<T then v i (ct c)*tms i c else if q (i-T)=c then-1 else 0)else if i=τ (c-T+1)then 1 else 0)) T=af (fun t=>z t*(v t (ct c)*tms t c)) T:=aj fun t ht=>by rw[if_pos hc,if_pos ht]
  have e2:af (fun k=>z (T+k)*(if c<T then(if T+k<T then v (T+k) (ct c)*tms (T+k) c else if q (T+k-T)=c then-1 else 0)else if T+k=τ (c-T+1)then 1 else 0)) r= -af (fun b=>if q b=c then z (T+b)else 0) r:=by
   have:∀f:Nat→Int,-af f r=af (fun b=>(-1)*f b) r:=fun f=>by rw[bm];omega
   rw[this];refine aj fun b hb=> ?_
   rw[if_pos hc,if_neg (by omega),show T+b-T=b by omega];split<;>omega
  rw[e1,e2]at h1;omega
 have hξ:∀b,b<r→z (T+b)=0:=by
  refine hind (fun b=>z (T+b)) fun a ha=> ?_
  have e1:af (fun c=>af (fun t=>z t*(v t (ct c)*tms t c)) T*inc I O c (ρ a)) T=0:=by
   have:∀c,c<T→af (fun t=>z t*(v t (ct c)*tms t c)) T*inc I O c (ρ a)=af (fun t=>z t*(v t (ct c)*tms t c*inc I O c (ρ a))) T:=fun c hc=>by
    rw[←qcq];exact aj fun t ht=>Int.mul_assoc _ _ _
   rw[aj this,lb];refine bw fun t ht=> ?_
   rw[bm,(hv t ht).2 (ρ a) (hρ a ha),Int.mul_zero]
  rw[aj fun c hc=>by rw[hx c hc]]at e1;have e2:∀c,c<T→af (fun b=>if q b=c then z (T+b)else 0) r*inc I O c (ρ a)=af (fun b=>if q b=c then z (T+b)*inc I O (q b) (ρ a)else 0) r:=fun c hc=>by
   rw[←qcq];refine aj fun b hb=> ?_
   by_cases e:q b=c
   ·rw[if_pos e,if_pos e,e]
   ·rw[if_neg e,if_neg e,Int.zero_mul]
  rw[aj e2,lb]at e1;rw[←e1];refine aj fun b hb=> ?_
  rw[fc (hq.1 b hb) fun k hk hne=>if_neg fun e=>hne e.symm,if_pos rfl]
 have h0:∀c,c<T→af (fun t=>z t*v t (ct c)) T+z c*v c (ct c)=0:=fun c hc=>by
  have h1:=hx c hc;rw[bw (n:=r) fun b hb=>by rw[hξ b hb];split<;>rfl]at h1;have e1:af (fun t=>z t*(v t (ct c)*tms t c)) T=af (fun t=>z t*v t (ct c)) T+af (fun t=>if t=c then z c*v c (ct c)else 0) T:=by
   rw[←sn];refine aj fun t ht=> ?_
   unfold tms;by_cases e:t=c
   ·subst e;rw[if_pos rfl,if_pos rfl,←Int.mul_assoc];omega
   ·rw[if_neg e,if_neg fun h=>e h.symm,Int.mul_one,Int.add_zero]
  rw[e1,fc hc fun k hk hne=>if_neg hne,if_pos rfl]at h1;exact h1
 have hout:∀c,c<T→ct c≠0→z c=0:=fun c hc hne=>by
  have hj:=h.ctK c hc;obtain⟨b1,b2⟩:=hτ (ct c) hj;have h1:=hz (T+(ct c-1)) (by omega);have e1:af (fun i=>z i*(if T+(ct c-1)<T then(if i<T then v i (ct (T+(ct c-1)))*tms i (T+(ct c-1))else if q (i-T)=T+(ct c-1)then-1 else 0)else if i=τ (T+(ct c-1)-T+1)then 1 else 0)) (T+r)=z (τ (ct c)):=by
   rw[fc (i:=τ (ct c)) (by omega) fun k hk hne' =>by rw[if_neg (by omega),show T+(ct c-1)-T+1=ct c by omega,if_neg hne',Int.mul_zero],if_neg (by omega),show T+(ct c-1)-T+1=ct c by omega,if_pos rfl,Int.mul_one]
  rw[e1]at h1;have h2:=h0 _ b1;rw[b2,h1,Int.zero_mul,Int.add_zero]at h2;have h3:=h0 c hc;rw[h2,Int.zero_add]at h3;rcases Int.mul_eq_zero.1 h3 with h4|h4
  ·exact h4
  ·have:=(hv c hc).1 (ct c) hj;omega
 have hα:af (fun t=>z t*v t 0) T=0:=by
  have e1:∀t,t<T→z t*v t 0= -af (fun t=>z t*v t 0) T*(if ct t=0 then 1 else 0):=fun t ht=>by
   by_cases e:ct t=0
   ·have:=h0 t ht;rw[e]at this;rw[if_pos e];omega
   ·rw[hout t ht e,if_neg e];simp
  have h1:=aj e1;rw[bm]at h1;have h2:=qgw (n:=T) (f:=fun t=>if ct t=0 then(1:Int)else 0) fun k hk=>by split<;>omega
  generalize af (fun t=>z t*v t 0) T=α at*;have h3:α*(1+af (fun t=>if ct t=0 then(1:Int)else 0) T)=0:=by
   rw[Int.mul_add,Int.mul_one];rw[Int.neg_mul]at h1;omega
  rcases Int.mul_eq_zero.1 h3 with h4|h4
  ·exact h4
  ·omega
 have hall:∀c,c<T→z c=0:=fun c hc=>by
  by_cases e:ct c=0
  ·have h1:=h0 c hc;rw[e,hα,Int.zero_add]at h1;rcases Int.mul_eq_zero.1 h1 with h4|h4
   ·exact h4
   ·have:=(hv c hc).1 0 hK;omega
  ·exact hout c hc e
 by_cases hlt:i1<T
 ·exact hz1 (hall i1 hlt)
 ·have:=hξ (i1-T) (by omega);rw[show T+(i1-T)=i1 by omega]at this;exact hz1 this
end
end Go.M.FC
