/-
  Freechoice: firing, and the search of a space (the reference's).
-/
import Derived.Test.YtclbndfjhjladaaGreatZ7U4
set_option linter.all false
namespace Go.Proofs.YtclbndfjhjladaaGreat
open Go.K Go.M
def qgb(c:Int)(l:List Int)(m:List Int):List Int:=l.foldl (fun m p=>m.set p.toNat (m.getD p.toNat 0+c)) m
theorem qyi(c:Int):∀(l:List Int) (m:List Int),(qgb c l m).length=m.length
 |[],_=>rfl
 |p::l,m=>(qyi c l _).trans (List.length_set ..)
theorem jba(c:Int):∀(l:List Int) (m:List Int),l.Pairwise (·<·)→(∀p∈l,0≤p∧p<m.length)→∀q:Nat,(qgb c l m).getD q 0=m.getD q 0+(if(q:Int)∈l then c else 0)
 |[],m,_,_,q=>by simp[qgb]
 |p::l,m,hs,hb,q=>by
  obtain⟨h1,h2⟩:=List.pairwise_cons.1 hs;have hp:=hb p List.mem_cons_self;have ih:=jba c l (m.set p.toNat (m.getD p.toNat 0+c)) h2 (fun x hx=>by rw[List.length_set];exact hb x (List.mem_cons_of_mem _ hx)) q;show(qgb c l (m.set p.toNat (m.getD p.toNat 0+c))).getD q 0=_;rw[ih];by_cases hq:(q:Int)=p
  ·have e:p.toNat=q:=by omega
   have hno:(q:Int)∉l:=fun hc=>by have:=h1 _ hc;omega
   rw[if_neg hno,if_pos (by rw[hq];exact List.mem_cons_self),e,List.getD_eq_getElem?_getD,List.getElem?_set_self (by omega)];simp
  ·have e:p.toNat≠q:=by omega
   have hiff:(q:Int)∈p::l↔(q:Int)∈l:=⟨fun hc=>(List.mem_cons.1 hc).resolve_left hq,List.mem_cons_of_mem _⟩;rw[List.getD_eq_getElem?_getD,List.getElem?_set_ne e,←List.getD_eq_getElem?_getD];by_cases hl:(q:Int)∈l
   ·rw[if_pos hl,if_pos (hiff.2 hl)]
   ·rw[if_neg hl,if_neg fun h=>hl (hiff.1 h)]
def l3(T:ab)(m:List Int):List Int:=qgb 1 T.2.2.1 (qgb (-1) T.2.1 m)
structure FireF (n : dj) (m : List Int) (T : ab) : Prop where
 i1 : ∀ p ∈ T.2.1, 0 ≤ p ∧ p < m.length
 s1 : T.2.1.Pairwise (· < ·)
 i2 : ∀ p ∈ T.2.2.1, 0 ≤ p ∧ p < m.length
 s2 : T.2.2.1.Pairwise (· < ·)
 l1 : T.2.1.length ≤ 60
 l2 : T.2.2.1.length ≤ 60
 mb : ∀ i, i < m.length → 0 ≤ m.getD i 0 ∧ m.getD i 0 ≤ 100
 ml : (m.length : Int) = n.1
 N : 1 ≤ n.1 ∧ n.1 ≤ 40
theorem j2y{n:dj}(h:Small n)(hv:n5 n=true){m:List Int}(hm:l4 n.1 m=true){t:Nat}(ht:t<n.2.1.length):FireF n m (n.2.1.getD t ab.z):=by
 obtain⟨hml,hmb⟩:=qfi.1 hm;have hN:1≤n.1∧n.1≤40:=by
  unfold n5 at hv;simp only[Bool.and_eq_true,decide_eq_true_eq]at hv;exact hv.1.1.1.1
 have hmem:n.2.1.getD t ab.z∈n.2.1:=bm ab.z ht;obtain⟨hs1,hs2⟩:=qvp hv hmem;have hi:=h.ins _ hmem;have ho:=h.outs _ hmem;obtain⟨hb1,hp1⟩:=qvj.1 hs1;obtain⟨hb2,hp2⟩:=qvj.1 hs2;exact⟨fun p hp=>by have:=hb1 p hp;omega,hp1,fun p hp=>by have:=hb2 p hp;omega,hp2,hi,ho,hmb,hml,hN⟩
section
variable {n : dj} {m : List Int} {T : ab} (F : FireF n m T)
include F
theorem FireF.len1:(qgb (-1) T.2.1 m).length=m.length:=qyi _ _ _
theorem FireF.len:(l3 T m).length=m.length:=(qyi _ _ _).trans (qyi _ _ _)
theorem FireF.at1(q:Nat):(qgb (-1) T.2.1 m).getD q 0=m.getD q 0+(if(q:Int)∈T.2.1 then-1 else 0):=jba (-1) T.2.1 m F.s1 F.i1 q
theorem FireF.i2' :∀p∈T.2.2.1,0≤p∧p<(qgb (-1) T.2.1 m).length:=fun p hp=>by have:=F.i2 p hp;have:=F.len1;omega
theorem FireF.at_(q:Nat):(l3 T m).getD q 0=m.getD q 0+(if(q:Int)∈T.2.1 then-1 else 0)+(if(q:Int)∈T.2.2.1 then 1 else 0):=by
 have:=jba 1 T.2.2.1 (qgb (-1) T.2.1 m) F.s2 F.i2' q;unfold l3;rw[this,F.at1]
theorem FireF.can(hc:qk T m=true):∀p∈T.2.1,1≤m.getD p.toNat 0:=fun p hp=>by
 unfold qk at hc;rw[Bool.not_eq_true',List.any_eq_false]at hc;have hpb:=F.i1 p hp;have:=F.mb p.toNat (by omega);have:¬m.getD p.toNat 0=0:=by simpa using hc p hp
 omega
theorem FireF.nn(hc:qk T m=true)(i:Nat)(hi:i<m.length):0≤(l3 T m).getD i 0∧(l3 T m).getD i 0≤101:=by
 rw[F.at_];have h5:=F.mb i hi;by_cases hin:(i:Int)∈T.2.1
 ·have:=F.can hc _ hin;rw[Int.toNat_natCast]at this;rw[if_pos hin];split<;>omega
 ·rw[if_neg hin];split<;>omega
end
theorem j1h{n:dj}{m:List Int}{t:Nat}(ht:t<n.2.1.length)(F:FireF n m (n.2.1.getD t ab.z)):q7s n m (t:Int)=some (qk (n.2.1.getD t ab.z) m):=by
 have hl:=F.l1;have hL:jih m (t:Int) n.1 n.2.1 n.2.2.1 n.2.2.2.1 0=some (bif (n.2.1.getD t ab.z).2.1.any (fun p=>decide (m.getD p.toNat 0=0))then .inr false else .inl ()):=by
  refine q15 (n.2.1.getD t ab.z).2.1 0 (fun p=>decide (m.getD p.toNat 0=0)) false (by omega) (fun i hi=> ?_) ?_
  ·have hb:=F.i1 _ (bm 0 hi);have hq:=F.mb ((n.2.1.getD t ab.z).2.1.getD i 0).toNat (by omega);by_cases h0:m.getD ((n.2.1.getD t ab.z).2.1.getD i 0).toNat 0=0
   ·rw[decide_eq_true h0];simp(disch:=omega)only[qln,rs]
   ·rw[decide_eq_false h0];simp(disch:=omega)only[qln,rs];rw[ar]
  ·simp(disch:=omega)only[qln,rs]
 unfold q7s qk;rw[hL,ao];cases(n.2.1.getD t ab.z).2.1.any (fun p=>decide (m.getD p.toNat 0=0))<;>rfl
theorem jpo(c:Int)(l:List Int)(i:Nat)(hi:i<l.length)(m:List Int):qgb c (l.take (i+1)) m=(qgb c (l.take i) m).set (l.getD i 0).toNat ((qgb c (l.take i) m).getD (l.getD i 0).toNat 0+c):=by
 unfold qgb;rw[j4 l i 0 hi,List.foldl_append];rfl
theorem jzb{l:List Int}(h:l.Pairwise (·<·))(i:Nat):(l.take i).Pairwise (·<·):=h.sublist (List.take_sublist i l)
theorem j44(a b:List Int)(ha:a.length≤1000000):qdb a b=some (decide (a=b)):=by
 unfold qdb;by_cases hl:a.length=b.length
 ·rw[q7j (by simp[hl])];have hloop:qtk a b 0=some (bif (List.range a.length).all (fun i=>decide (a.getD i 0=b.getD i 0))then .inl ()else .inr false):=by
   refine qlc (fun i:Nat=>(i:Int)) a.length (fg (by omega)) _ () false ?_ ?_ ?_
   ·intro i hi hp;have hp' :a.getD i 0=b.getD i 0:=of_decide_eq_true hp;simp(disch:=omega)only[om,rs];rw[ar]
   ·intro i hi hp;have hp' :a.getD i 0≠b.getD i 0:=of_decide_eq_false hp;simp(disch:=omega)only[om,rs]
   ·simp(disch:=omega)only[om,rs]
  rw[hloop,ao];have hall:(List.range a.length).all (fun i=>decide (a.getD i 0=b.getD i 0))=decide (a=b):=by
   rw[Bool.eq_iff_iff,List.all_eq_true,decide_eq_true_iff];constructor
   ·intro h;refine List.ext_getElem hl fun i h1 h2=> ?_
    have:=of_decide_eq_true (h i (List.mem_range.2 h1));rw[qla a i 0 h1,qla b i 0 h2]at this;exact this
   ·rintro rfl i _;simp
  rw[hall];cases decide (a=b)<;>rfl
 ·have:¬a=b:=fun h=>hl (by rw[h])
  rw[q7k (by simp;omega),decide_eq_false this]
def jux(st:List (List Int))(m:List Int):Int:=jr0 (fun x:List Int=>decide (x=m)) st
theorem jxl(s:gq)(m:List Int)(hs:s.1.length≤1000000)(hr:∀x∈s.1,x.length≤1000000):q2a s m=some (jux s.1 m):=by
 have hL:jde m s.1 s.2.1 s.2.2.1 0=some (q38 (fun i=>(i:Int)) (zm (fun x:List Int=>decide (x=m)) s.1)):=by
  refine kq s.1 [] (fun x:List Int=>decide (x=m)) (fun i=>(i:Int)) (by omega) (fun i hi=> ?_) ?_
  ·have h1:=j44 (s.1.getD i []) m (hr _ (bm [] hi));simp(disch:=omega)only[qq2,h1,rs];rw[ar];cases decide (s.1.getD i []=m)<;>rfl
  ·simp(disch:=omega)only[qq2,rs]
 unfold q2a;rw[hL,ao];exact qbc _ _
theorem q2q{n:dj}(hv:n5 n=true):1≤n.1∧n.1≤40∧0≤n.2.2.2.1∧n.2.2.2.1<n.1∧n.2.1.length≤60:=by
 unfold n5 at hv;simp only[Bool.and_eq_true,decide_eq_true_eq]at hv;exact⟨hv.1.1.1.1.1,hv.1.1.1.1.2,hv.2.1,hv.2.2,hv.1.1.1.2⟩
theorem j14{n:dj}{m:List Int}{t:Nat}(ht:t<n.2.1.length)(htl:n.2.1.length≤1000)(F:FireF n m (n.2.1.getD t ab.z)):qw5 n m (t:Int)=some (l4 n.1 (l3 (n.2.1.getD t ab.z) m),l3 (n.2.1.getD t ab.z) m):=by
 have hN:=F.N;have hml:=F.ml;have hl1:=F.l1;have hl2:=F.l2;have h0:q9i n.1 n.2.1 n.2.2.1 n.2.2.2.1 (n.2.1.getD t ab.z).1 (n.2.1.getD t ab.z).2.1 (n.2.1.getD t ab.z).2.2.1 (0,m)=some (.inl (qgb (-1) (n.2.1.getD t ab.z).2.1 m)):=by
  have e:qgb (-1) (n.2.1.getD t ab.z).2.1 m=qgb (-1) ((n.2.1.getD t ab.z).2.1.take (n.2.1.getD t ab.z).2.1.length) m:=by rw[List.take_length]
  rw[e];refine qfh (fun i:Nat=>((i:Int),qgb (-1) ((n.2.1.getD t ab.z).2.1.take i) m)) (n.2.1.getD t ab.z).2.1.length (fg (by omega)) _ (fun i hi=> ?_) ?_ _ rfl
  ·have hb:=F.i1 _ (bm 0 hi);have hq:=F.mb ((n.2.1.getD t ab.z).2.1.getD i 0).toNat (by omega);have hlen:(qgb (-1) ((n.2.1.getD t ab.z).2.1.take i) m).length=m.length:=qyi _ _ _;have hat:=jba (-1) ((n.2.1.getD t ab.z).2.1.take i) m (jzb F.s1 i) (fun p hp=>F.i1 p (List.mem_of_mem_take hp)) ((n.2.1.getD t ab.z).2.1.getD i 0).toNat;have hbd: -1≤(qgb (-1) ((n.2.1.getD t ab.z).2.1.take i) m).getD ((n.2.1.getD t ab.z).2.1.getD i 0).toNat 0∧(qgb (-1) ((n.2.1.getD t ab.z).2.1.take i) m).getD ((n.2.1.getD t ab.z).2.1.getD i 0).toNat 0≤100:=by
    rw[hat];split<;>omega
   rw[jpo (-1) _ i hi];simp(disch:=omega)only[qlq,hlen,rs];rw[ar];rfl
  ·simp(disch:=omega)only[qlq,rs]
 have h1:q9j n.1 n.2.1 n.2.2.1 n.2.2.2.1 (n.2.1.getD t ab.z).1 (n.2.1.getD t ab.z).2.1 (n.2.1.getD t ab.z).2.2.1 (0,qgb (-1) (n.2.1.getD t ab.z).2.1 m)=some (.inl (l3 (n.2.1.getD t ab.z) m)):=by
  have e:l3 (n.2.1.getD t ab.z) m=qgb 1 ((n.2.1.getD t ab.z).2.2.1.take (n.2.1.getD t ab.z).2.2.1.length) (qgb (-1) (n.2.1.getD t ab.z).2.1 m):=by rw[List.take_length];rfl
  have hl0:=F.len1;rw[e];refine qfh (fun i:Nat=>((i:Int),qgb 1 ((n.2.1.getD t ab.z).2.2.1.take i) (qgb (-1) (n.2.1.getD t ab.z).2.1 m))) (n.2.1.getD t ab.z).2.2.1.length (fg (by omega)) _ (fun i hi=> ?_) ?_ _ rfl
  ·have hb:=F.i2 _ (bm 0 hi);have hq:=F.mb ((n.2.1.getD t ab.z).2.2.1.getD i 0).toNat (by omega);have hlen:(qgb 1 ((n.2.1.getD t ab.z).2.2.1.take i) (qgb (-1) (n.2.1.getD t ab.z).2.1 m)).length=m.length:=(qyi _ _ _).trans hl0;have hat:=jba 1 ((n.2.1.getD t ab.z).2.2.1.take i) (qgb (-1) (n.2.1.getD t ab.z).2.1 m) (jzb F.s2 i) (fun p hp=>F.i2' p (List.mem_of_mem_take hp)) ((n.2.1.getD t ab.z).2.2.1.getD i 0).toNat;have hat1:=F.at1 ((n.2.1.getD t ab.z).2.2.1.getD i 0).toNat;have hbd: -1≤(qgb 1 ((n.2.1.getD t ab.z).2.2.1.take i) (qgb (-1) (n.2.1.getD t ab.z).2.1 m)).getD ((n.2.1.getD t ab.z).2.2.1.getD i 0).toNat 0∧(qgb 1 ((n.2.1.getD t ab.z).2.2.1.take i) (qgb (-1) (n.2.1.getD t ab.z).2.1 m)).getD ((n.2.1.getD t ab.z).2.2.1.getD i 0).toNat 0≤101:=by
    rw[hat,hat1];split<;>split<;>omega
   rw[jpo 1 _ i hi];simp(disch:=omega)only[qlr,hlen,rs];rw[ar]
  ·simp(disch:=omega)only[qlr,rs]
 have hlen:=F.len;have h2:=qx5 n (l3 (n.2.1.getD t ab.z) m) (by omega);have hap:([]:List Int)++m=m:=rfl;unfold qw5;simp(disch:=omega)only[hap,h0,h1,h2,rs]
abbrev Sig:Type:=Bool×List (List Int)×List a8
abbrev gg(σ:Sig)(i:Nat):List Int:=σ.2.1.getD i []
abbrev trA(n:dj)(t:Nat):ab:=n.2.1.getD t ab.z
def mvA(i k t:Nat):a8:=((i:Int),(k:Int),(t:Int),())
def jrw(σ:Sig)(x:List Int):Option Nat:=zm (fun y:List Int=>decide (y=x)) σ.2.1
def qto(n:dj)(M i:Nat)(σ:Sig)(t:Nat):Sig:=
 bif qk (trA n t) (gg σ i)then
  bif l4 n.1 (l3 (trA n t) (gg σ i))then
   match jrw σ (l3 (trA n t) (gg σ i))with
   |some k=>(σ.1,σ.2.1,σ.2.2++[mvA i k t])
   |none=>if σ.2.1.length<M then(σ.1,σ.2.1++[l3 (trA n t) (gg σ i)],σ.2.2++[mvA i σ.2.1.length t])else(false,σ.2.1,σ.2.2)
  else(false,σ.2.1,σ.2.2)
 else σ
abbrev sk(n:dj)(M i:Nat)(l:List Nat)(σ:Sig):Sig:=l.foldl (qto n M i) σ
def q46(n:dj)(M:Nat):Nat→Nat→Sig→Sig
 |0,_,σ=>σ
 |f+1,i,σ=>if i<σ.2.1.length then q46 n M f (i+1) (sk n M i (List.range n.2.1.length) σ)else σ
theorem qsi(n:dj)(M i:Nat)(σ:Sig)(t:Nat):
  (qk (trA n t) (gg σ i)=false∧qto n M i σ t=σ)∨
  (qk (trA n t) (gg σ i)=true∧l4 n.1 (l3 (trA n t) (gg σ i))=false∧qto n M i σ t=(false,σ.2.1,σ.2.2))∨
  (qk (trA n t) (gg σ i)=true∧l4 n.1 (l3 (trA n t) (gg σ i))=true∧∃k,jrw σ (l3 (trA n t) (gg σ i))=some k∧qto n M i σ t=(σ.1,σ.2.1,σ.2.2++[mvA i k t]))∨
  (qk (trA n t) (gg σ i)=true∧l4 n.1 (l3 (trA n t) (gg σ i))=true∧jrw σ (l3 (trA n t) (gg σ i))=none∧σ.2.1.length<M∧qto n M i σ t=(σ.1,σ.2.1++[l3 (trA n t) (gg σ i)],σ.2.2++[mvA i σ.2.1.length t]))∨
  (qk (trA n t) (gg σ i)=true∧l4 n.1 (l3 (trA n t) (gg σ i))=true∧jrw σ (l3 (trA n t) (gg σ i))=none∧¬σ.2.1.length<M∧qto n M i σ t=(false,σ.2.1,σ.2.2)):=by
 unfold qto;cases h1:qk (trA n t) (gg σ i)with
 |false=>exact .inl ⟨rfl,rfl⟩
 |true=>
  cases h2:l4 n.1 (l3 (trA n t) (gg σ i))with
  |false=>exact .inr (.inl ⟨rfl,rfl,rfl⟩)
  |true=>
   cases h3:jrw σ (l3 (trA n t) (gg σ i))with
   |some k=>exact .inr (.inr (.inl ⟨rfl,rfl,k,rfl,rfl⟩))
   |none=>
    by_cases h4:σ.2.1.length<M
    ·refine .inr (.inr (.inr (.inl ⟨rfl,rfl,rfl,h4,?_⟩)));simp only[cond_true,if_pos h4]
    ·refine .inr (.inr (.inr (.inr ⟨rfl,rfl,rfl,h4,?_⟩)));simp only[cond_true,if_neg h4]
theorem j20{σ:Sig}{x:List Int}{k:Nat}(h:jrw σ x=some k):k<σ.2.1.length∧gg σ k=x:=by
 obtain⟨h1,h2,_⟩:=qyp [] h;exact⟨h1,of_decide_eq_true h2⟩
theorem j2z{σ:Sig}{x:List Int}(h:jrw σ x=none):x∉σ.2.1:=fun hx=>by
 have:=qyo h x hx;exact absurd rfl (of_decide_eq_false this)
theorem jum{α:Type}(l:List α)(x d:α)(i:Nat)(h:i<l.length):(l++[x]).getD i d=l.getD i d:=by
 rw[List.getD_eq_getElem?_getD,List.getD_eq_getElem?_getD,List.getElem?_append_left h]
theorem j0o{α:Type}(l:List α)(x d:α):(l++[x]).getD l.length d=x:=by
 rw[List.getD_eq_getElem?_getD,List.getElem?_append_right (Nat.le_refl _),Nat.sub_self];rfl
structure SpI (n : dj) (M : Nat) (σ : Sig) : Prop where
 mks : ∀ x ∈ σ.2.1, l4 n.1 x = true
 nd : σ.2.1.Nodup
 len : σ.2.1.length ≤ M
 pos : 0 < σ.2.1.length
theorem SpI.flag{n:dj}{M:Nat}{σ:Sig}(h:SpI n M σ)(b:Bool)(mv:List a8):SpI n M (b,σ.2.1,mv):=⟨h.mks,h.nd,h.len,h.pos⟩
theorem SpI.push{n:dj}{M:Nat}{σ:Sig}(h:SpI n M σ)(b:Bool)(mv:List a8){x:List Int}(hx:l4 n.1 x=true)(hn:x∉σ.2.1)(hl:σ.2.1.length<M):SpI n M (b,σ.2.1++[x],mv):=by
 refine⟨fun y hy=> ?_,?_,by simp;omega,by simp⟩
 ·rcases List.mem_append.1 hy with hy|hy
  ·exact h.mks y hy
  ·rw[List.mem_singleton.1 hy];exact hx
 ·exact List.nodup_append.2 ⟨h.nd,by simp,fun a ha b hb=>by rw[List.mem_singleton.1 hb];exact fun e=>hn (e▸ha)⟩
theorem SpI.step{n:dj}{M i:Nat}{σ:Sig}(h:SpI n M σ)(t:Nat):SpI n M (qto n M i σ t):=by
 rcases qsi n M i σ t with⟨_,e⟩|⟨_,_,e⟩|⟨_,_,k,_,e⟩|⟨_,h2,h3,h4,e⟩|⟨_,_,_,_,e⟩<;>rw[e]
 ·exact h
 ·exact h.flag _ _
 ·exact h.flag _ _
 ·exact h.push _ _ h2 (j2z h3) h4
 ·exact h.flag _ _
theorem joe{n:dj}{M i:Nat}{σ:Sig}{j:Nat}(hj:j<σ.2.1.length)(t:Nat):gg (qto n M i σ t) j=gg σ j∧σ.2.1.length≤(qto n M i σ t).2.1.length:=by
 rcases qsi n M i σ t with⟨_,e⟩|⟨_,_,e⟩|⟨_,_,k,_,e⟩|⟨_,h2,h3,h4,e⟩|⟨_,_,_,_,e⟩<;>rw[e]
 ·exact⟨rfl,Nat.le_refl _⟩
 ·exact⟨rfl,Nat.le_refl _⟩
 ·exact⟨rfl,Nat.le_refl _⟩
 ·exact⟨jum _ _ _ _ hj,by simp⟩
 ·exact⟨rfl,Nat.le_refl _⟩
theorem j4o(n:dj)(M i:Nat)(σ:Sig)(t:Nat):(qto n M i σ t).2.2.length≤σ.2.2.length+1:=by
 rcases qsi n M i σ t with⟨_,e⟩|⟨_,_,e⟩|⟨_,_,k,_,e⟩|⟨_,h2,h3,h4,e⟩|⟨_,_,_,_,e⟩<;>rw[e]<;>simp
theorem q2f{n:dj}{M i:Nat}:∀(l:List Nat) {σ:Sig},SpI n M σ→SpI n M (sk n M i l σ)∧(∀j,j<σ.2.1.length→gg (sk n M i l σ) j=gg σ j)∧σ.2.1.length≤(sk n M i l σ).2.1.length∧(sk n M i l σ).2.2.length≤σ.2.2.length+l.length
 |[],σ,h=>⟨h,fun _ _=>rfl,Nat.le_refl _,Nat.le_refl _⟩
 |t::l,σ,h=>by
  obtain⟨h1,h2,h3,h4⟩:=q2f (n:=n) (M:=M) (i:=i) l (h.step (i:=i) t);have h5:=joe (n:=n) (M:=M) (i:=i) (σ:=σ) h.pos t;have h6:=j4o n M i σ t;refine⟨h1,fun j hj=>(h2 j (by omega)).trans (joe hj t).1,Nat.le_trans h5.2 h3,?_⟩;have:(sk n M i (t::l) σ).2.2.length≤(qto n M i σ t).2.2.length+l.length:=h4;simp only[List.length_cons];omega
theorem j54{S E R:Type}{step:S→Option (LR S E R)}{o:E⊕R}{n:Nat}{s:S}(h:q8c step n s=some o)(hn:n<many):ay step s=some o:=jp6 h (by omega)
def zec(m:List Int):Sig:=(true,[m],[])
theorem jzm{n:dj}{M:Nat}{m:List Int}(hm:l4 n.1 m=true)(hM:1≤M):SpI n M (zec m):=by
 refine⟨fun x hx=> ?_,List.pairwise_singleton _ _,by show 1≤M;exact hM,Nat.one_pos⟩;rw[List.mem_singleton.1 hx];exact hm
def spc(n:dj)(M:Nat)(m:List Int):Sig:=q46 n M (M+1) 0 (zec m)
theorem j03{σ:Sig}{x:List Int}{k:Nat}(h:jrw σ x=some k):jux σ.2.1 x=(k:Int):=by
 unfold jux jr0;rw[show zm (fun y:List Int=>decide (y=x)) σ.2.1=some k from h]
theorem jqd{σ:Sig}{x:List Int}(h:jrw σ x=none):jux σ.2.1 x= -1:=by
 unfold jux jr0;rw[show zm (fun y:List Int=>decide (y=x)) σ.2.1=none from h]
def j6b(a b:a8):Prop:=a.1<b.1∨a.1=b.1∧a.2.2.1<b.2.2.1
structure GI (n : dj) (M : Nat) (m : List Int) (i d : Nat) (σ : Sig) : Prop where
 sp : SpI n M σ
 mv : ∀ x ∈ σ.2.2, ∃ a b t, x = mvA a b t ∧ (a < i ∨ a = i ∧ t < d) ∧ a < σ.2.1.length ∧ b < σ.2.1.length ∧ t < n.2.1.length ∧ qk (trA n t) (gg σ a) = true ∧ l3 (trA n t) (gg σ a) = gg σ b
 srt : σ.2.2.Pairwise j6b
 full : σ.1 = true → ∀ a t, (a < i ∨ a = i ∧ t < d) → a < σ.2.1.length → t < n.2.1.length → qk (trA n t) (gg σ a) = true → ∃ b, mvA a b t ∈ σ.2.2
 rch : ∀ j, 0 < j → j < σ.2.1.length → ∃ a t, a < j ∧ mvA a j t ∈ σ.2.2
 fst : gg σ 0 = m
 ml : σ.2.2.length ≤ i * n.2.1.length + d
theorem GI.ex{n:dj}{M:Nat}{m:List Int}{i d:Nat}{σ:Sig}(h:GI n M m i d σ){st:List (List Int)}{b0:Nat}(hi:i<σ.2.1.length)(ht:d<n.2.1.length)(hst:∀j,j<σ.2.1.length→st.getD j []=gg σ j)(hlen:σ.2.1.length≤st.length)(hb:b0<st.length)(hc:qk (trA n d) (gg σ i)=true)(hf:l3 (trA n d) (gg σ i)=st.getD b0 []):
  (∀x∈σ.2.2++[mvA i b0 d],∃a b t,x=mvA a b t∧(a<i∨a=i∧t<d+1)∧a<st.length∧b<st.length∧t<n.2.1.length∧qk (trA n t) (st.getD a [])=true∧l3 (trA n t) (st.getD a [])=st.getD b [])∧(σ.2.2++[mvA i b0 d]).Pairwise j6b:=by
 refine⟨fun x hx=> ?_,List.pairwise_append.2 ⟨h.srt,List.pairwise_singleton _ _,fun x hx y hy=> ?_⟩⟩
 ·rcases List.mem_append.1 hx with hx|hx
  ·obtain⟨a,b,t,e,h1,h2,h3,h4,h5,h6⟩:=h.mv x hx;exact⟨a,b,t,e,by omega,by omega,by omega,h4,by rw[hst a h2];exact h5,by rw[hst a h2,hst b h3];exact h6⟩
  ·rw[List.mem_singleton.1 hx];exact⟨i,b0,d,rfl,by omega,by omega,hb,ht,by rw[hst i hi];exact hc,by rw[hst i hi];exact hf⟩
 ·obtain⟨a,b,t,rfl,h1,_⟩:=h.mv x hx;rw[List.mem_singleton.1 hy];unfold j6b mvA;simp only[];omega
theorem GI.step{n:dj}{M:Nat}{m:List Int}{i d:Nat}{σ:Sig}(h:GI n M m i d σ)(hi:i<σ.2.1.length)(ht:d<n.2.1.length):GI n M m i (d+1) (qto n M i σ d):=by
 have hsp:=h.sp.step (i:=i) d;rcases qsi n M i σ d with⟨g1,e⟩|⟨g1,g2,e⟩|⟨g1,g2,q,g3,e⟩|⟨g1,g2,g3,g4,e⟩|⟨g1,g2,g3,g4,e⟩<;>rw[e]at hsp⊢
 ·refine⟨hsp,fun x hx=> ?_,h.srt,fun hf a t hat ha ht' hc=> ?_,h.rch,h.fst,by have:=h.ml;omega⟩
  ·obtain⟨a,b,t,e,h1,h2⟩:=h.mv x hx;exact⟨a,b,t,e,by omega,h2⟩
  ·by_cases hd:a=i∧t=d
   ·obtain⟨rfl,rfl⟩:=hd;rw[g1]at hc;cases hc
   ·exact h.full hf a t (by omega) ha ht' hc
 ·refine⟨hsp,fun x hx=> ?_,h.srt,(fun hf=>by cases hf),h.rch,h.fst,by have:=h.ml;show σ.2.2.length≤_;omega⟩;obtain⟨a,b,t,e,h1,h2⟩:=h.mv x hx;exact⟨a,b,t,e,by omega,h2⟩
 ·obtain⟨q1,q2⟩:=j20 g3;obtain⟨m1,m2⟩:=h.ex (st:=σ.2.1) (b0:=q) hi ht (fun _ _=>rfl) (Nat.le_refl _) q1 g1 q2.symm;refine⟨hsp,m1,m2,fun hf a t hat ha ht' hc=> ?_,fun j h0 hj=> ?_,h.fst,by have:=h.ml;simp only[List.length_append,List.length_cons,List.length_nil];omega⟩
  ·by_cases hd:a=i∧t=d
   ·obtain⟨rfl,rfl⟩:=hd;exact⟨q,List.mem_append_right _ (List.mem_singleton.2 rfl)⟩
   ·obtain⟨b,hb⟩:=h.full hf a t (by omega) ha ht' hc;exact⟨b,List.mem_append_left _ hb⟩
  ·obtain⟨a,t,h1,h2⟩:=h.rch j h0 hj;exact⟨a,t,h1,List.mem_append_left _ h2⟩
 ·have hst:∀j,j<σ.2.1.length→(σ.2.1++[l3 (trA n d) (gg σ i)]).getD j []=gg σ j:=fun j hj=>jum _ _ _ _ hj
  obtain⟨m1,m2⟩:=h.ex (st:=σ.2.1++[l3 (trA n d) (gg σ i)]) (b0:=σ.2.1.length) hi ht hst (by simp) (by simp) g1 (j0o _ _ _).symm;refine⟨hsp,m1,m2,fun hf a t hat ha ht' hc=> ?_,fun j h0 hj=> ?_,(hst 0 h.sp.pos).trans h.fst,by have:=h.ml;simp only[List.length_append,List.length_cons,List.length_nil];omega⟩
  ·by_cases hd:a=i∧t=d
   ·obtain⟨rfl,rfl⟩:=hd;exact⟨_,List.mem_append_right _ (List.mem_singleton.2 rfl)⟩
   ·have ha' :a<σ.2.1.length:=by omega
    have hc' :qk (trA n t) (gg σ a)=true:=by rw[←hst a ha'];exact hc
    obtain⟨b,hb⟩:=h.full hf a t (by omega) ha' ht' hc';exact⟨b,List.mem_append_left _ hb⟩
  ·by_cases hjl:j<σ.2.1.length
   ·obtain⟨a,t,h1,h2⟩:=h.rch j h0 hjl;exact⟨a,t,h1,List.mem_append_left _ h2⟩
   ·have:j=σ.2.1.length:=by simp only[List.length_append,List.length_cons,List.length_nil]at hj;omega
    subst this;exact⟨i,d,hi,List.mem_append_right _ (List.mem_singleton.2 rfl)⟩
 ·refine⟨hsp,fun x hx=> ?_,h.srt,(fun hf=>by cases hf),h.rch,h.fst,by have:=h.ml;show σ.2.2.length≤_;omega⟩;obtain⟨a,b,t,e,h1,h2⟩:=h.mv x hx;exact⟨a,b,t,e,by omega,h2⟩
theorem GI.row{n:dj}{M:Nat}{m:List Int}{i:Nat}{σ:Sig}(h:GI n M m i 0 σ)(hi:i<σ.2.1.length):GI n M m (i+1) 0 (sk n M i (List.range n.2.1.length) σ):=by
 have key:∀d,d≤n.2.1.length→GI n M m i d (sk n M i (List.range d) σ)∧i<(sk n M i (List.range d) σ).2.1.length:=fun d=>by
  induction d with
  |zero=>intro _;exact⟨h,hi⟩
  |succ d ih=>
   intro hd;obtain⟨h1,h2⟩:=ih (by omega);have e1:sk n M i (List.range (d+1)) σ=qto n M i (sk n M i (List.range d) σ) d:=by
    rw[List.range_succ];unfold sk;rw[List.foldl_append];rfl
   rw[e1];exact⟨h1.step h2 (by omega),Nat.lt_of_lt_of_le h2 (joe h2 d).2⟩
 obtain⟨h1,_⟩:=key n.2.1.length (Nat.le_refl _);refine⟨h1.sp,fun x hx=> ?_,h1.srt,fun hf a t hat ha ht hc=>h1.full hf a t (by omega) ha ht hc,h1.rch,h1.fst,by have:=h1.ml;rw[Nat.add_mul];omega⟩;obtain⟨a,b,t,e,g1,g2⟩:=h1.mv x hx;exact⟨a,b,t,e,by omega,g2⟩
theorem GI.expl{n:dj}{M:Nat}{m:List Int}:∀(f i:Nat) {σ:Sig},GI n M m i 0 σ→i≤σ.2.1.length→M<f+i→∃k,GI n M m k 0 (q46 n M f i σ)∧k=(q46 n M f i σ).2.1.length
 |0,i,σ,h,hi,hf=>⟨i,h,by have:=h.sp.len;show i=σ.2.1.length;omega⟩
 |f+1,i,σ,h,hi,hf=>by
  unfold q46;by_cases hlt:i<σ.2.1.length
  ·rw[if_pos hlt];have:=(q2f (n:=n) (M:=M) (i:=i) (List.range n.2.1.length) h.sp).2.2.1;exact GI.expl f (i+1) (h.row hlt) (by omega) (by omega)
  ·rw[if_neg hlt];exact⟨i,h,by omega⟩
structure SpcOK (n : dj) (M : Nat) (m : List Int) (σ : Sig) : Prop where
 sp : SpI n M σ
 mv : ∀ x ∈ σ.2.2, ∃ a b t, x = mvA a b t ∧ a < σ.2.1.length ∧ b < σ.2.1.length ∧ t < n.2.1.length ∧ qk (trA n t) (gg σ a) = true ∧ l3 (trA n t) (gg σ a) = gg σ b
 srt : σ.2.2.Pairwise j6b
 full : σ.1 = true → ∀ a t, a < σ.2.1.length → t < n.2.1.length → qk (trA n t) (gg σ a) = true → ∃ b, mvA a b t ∈ σ.2.2
 rch : ∀ j, 0 < j → j < σ.2.1.length → ∃ a t, a < j ∧ mvA a j t ∈ σ.2.2
 fst : gg σ 0 = m
 ml : σ.2.2.length ≤ M * n.2.1.length
theorem j4n{n:dj}{M:Nat}{m:List Int}(hm:l4 n.1 m=true)(hM:1≤M):SpcOK n M m (spc n M m):=by
 have h0:GI n M m 0 0 (zec m):=by
  refine⟨jzm hm hM,(fun x hx=>by cases hx),List.Pairwise.nil,fun _ a t hat=>by omega,fun j h0 hj=> ?_,rfl,Nat.zero_le _⟩;have:j<1:=hj;omega
 obtain⟨k,h1,hk⟩:=GI.expl (M+1) 0 h0 (Nat.zero_le _) (by omega);have hlen:=h1.sp.len;refine⟨h1.sp,fun x hx=> ?_,h1.srt,fun hf a t ha ht hc=>h1.full hf a t (by show a<k∨_;rw[hk];exact .inl ha) ha ht hc,h1.rch,h1.fst,Nat.le_trans h1.ml (Nat.mul_le_mul_right _ (by rw[hk];exact hlen))⟩;obtain⟨a,b,t,e,_,g2⟩:=h1.mv x hx;exact⟨a,b,t,e,g2⟩
end Go.Proofs.YtclbndfjhjladaaGreat
