/-
  Freechoice: firing, and the search of a space (the reference's).
-/
import Derived.Test.YtclbndfjhjladaaGreatZ5PRC
set_option linter.all false
namespace Go.Proofs.YtclbndfjhjladaaGreat
open Go.K Go.M
def vc(c:Int)(l:List Int)(m:List Int):List Int:=l.foldl (fun m p=>m.set p.toNat (m.getD p.toNat 0+c)) m
theorem qi2(c:Int):∀(l:List Int) (m:List Int),(vc c l m).length=m.length
 |[],_=>rfl
 |p::l,m=>(qi2 c l _).trans (List.length_set ..)
theorem qt7(c:Int):∀(l:List Int) (m:List Int),l.Pairwise (·<·)→(∀p∈l,0≤p∧p<m.length)→∀q:Nat,(vc c l m).getD q 0=m.getD q 0+(if(q:Int)∈l then c else 0)
 |[],m,_,_,q=>by simp[vc]
 |p::l,m,hs,hb,q=>by
  obtain⟨h1,h2⟩:=List.pairwise_cons.1 hs;have hp:=hb p List.mem_cons_self;have ih:=qt7 c l (m.set p.toNat (m.getD p.toNat 0+c)) h2 (fun x hx=>by rw[List.length_set];exact hb x (List.mem_cons_of_mem _ hx)) q;show(vc c l (m.set p.toNat (m.getD p.toNat 0+c))).getD q 0=_;rw[ih];by_cases hq:(q:Int)=p
  ·have e:p.toNat=q:=by omega
   have hno:(q:Int)∉l:=fun hc=>by have:=h1 _ hc;omega
   rw[if_neg hno,if_pos (by rw[hq];exact List.mem_cons_self),e,List.getD_eq_getElem?_getD,List.getElem?_set_self (by omega)];simp
  ·have e:p.toNat≠q:=by omega
   have hiff:(q:Int)∈p::l↔(q:Int)∈l:=⟨fun hc=>(List.mem_cons.1 hc).resolve_left hq,List.mem_cons_of_mem _⟩;rw[List.getD_eq_getElem?_getD,List.getElem?_set_ne e,←List.getD_eq_getElem?_getD];by_cases hl:(q:Int)∈l
   ·rw[if_pos hl,if_pos (hiff.2 hl)]
   ·rw[if_neg hl,if_neg fun h=>hl (hiff.1 h)]
def im(T:ae)(m:List Int):List Int:=vc 1 T.2.2.1 (vc (-1) T.2.1 m)
structure FireF (n : bp) (m : List Int) (T : ae) : Prop where
 i1 : ∀ p ∈ T.2.1, 0 ≤ p ∧ p < m.length
 s1 : T.2.1.Pairwise (· < ·)
 i2 : ∀ p ∈ T.2.2.1, 0 ≤ p ∧ p < m.length
 s2 : T.2.2.1.Pairwise (· < ·)
 l1 : T.2.1.length ≤ 60
 l2 : T.2.2.1.length ≤ 60
 mb : ∀ i, i < m.length → 0 ≤ m.getD i 0 ∧ m.getD i 0 ≤ 100
 ml : (m.length : Int) = n.1
 N : 1 ≤ n.1 ∧ n.1 ≤ 40
theorem jpf{n:bp}(h:Small n)(hv:ck n=true){m:List Int}(hm:mt n.1 m=true){t:Nat}(ht:t<n.2.1.length):FireF n m (n.2.1.getD t ae.z):=by
 obtain⟨hml,hmb⟩:=sr.1 hm;have hN:1≤n.1∧n.1≤40:=by
  unfold ck at hv;simp only[Bool.and_eq_true,decide_eq_true_eq]at hv;exact hv.1.1.1.1
 have hmem:n.2.1.getD t ae.z∈n.2.1:=au ae.z ht;obtain⟨hs1,hs2⟩:=qms hv hmem;have hi:=h.ins _ hmem;have ho:=h.outs _ hmem;obtain⟨hb1,hp1⟩:=qdq.1 hs1;obtain⟨hb2,hp2⟩:=qdq.1 hs2;exact⟨fun p hp=>by have:=hb1 p hp;omega,hp1,fun p hp=>by have:=hb2 p hp;omega,hp2,hi,ho,hmb,hml,hN⟩
section
variable {n : bp} {m : List Int} {T : ae} (F : FireF n m T)
include F
theorem FireF.len1:(vc (-1) T.2.1 m).length=m.length:=qi2 _ _ _
theorem FireF.len:(im T m).length=m.length:=(qi2 _ _ _).trans (qi2 _ _ _)
theorem FireF.at1(q:Nat):(vc (-1) T.2.1 m).getD q 0=m.getD q 0+(if(q:Int)∈T.2.1 then-1 else 0):=qt7 (-1) T.2.1 m F.s1 F.i1 q
theorem FireF.i2' :∀p∈T.2.2.1,0≤p∧p<(vc (-1) T.2.1 m).length:=fun p hp=>by have:=F.i2 p hp;have:=F.len1;omega
theorem FireF.at_(q:Nat):(im T m).getD q 0=m.getD q 0+(if(q:Int)∈T.2.1 then-1 else 0)+(if(q:Int)∈T.2.2.1 then 1 else 0):=by
 have:=qt7 1 T.2.2.1 (vc (-1) T.2.1 m) F.s2 F.i2' q;unfold im;rw[this,F.at1]
theorem FireF.can(hc:qd4 T m=true):∀p∈T.2.1,1≤m.getD p.toNat 0:=fun p hp=>by
 unfold qd4 at hc;rw[Bool.not_eq_true',List.any_eq_false]at hc;have hpb:=F.i1 p hp;have:=F.mb p.toNat (by omega);have:¬m.getD p.toNat 0=0:=by simpa using hc p hp
 omega
end
theorem jm8{n:bp}{m:List Int}{t:Nat}(ht:t<n.2.1.length)(F:FireF n m (n.2.1.getD t ae.z)):qq9 n m (t:Int)=some (qd4 (n.2.1.getD t ae.z) m):=by
 have hl:=F.l1;have hL:q1c m (t:Int) n.1 n.2.1 n.2.2.1 n.2.2.2.1 0=some (bif (n.2.1.getD t ae.z).2.1.any (fun p=>decide (m.getD p.toNat 0=0))then .inr false else .inl ()):=by
  refine na (n.2.1.getD t ae.z).2.1 0 (fun p=>decide (m.getD p.toNat 0=0)) false (by omega) (fun i hi=> ?_) ?_
  ·have hb:=F.i1 _ (au 0 hi);have hq:=F.mb ((n.2.1.getD t ae.z).2.1.getD i 0).toNat (by omega);by_cases h0:m.getD ((n.2.1.getD t ae.z).2.1.getD i 0).toNat 0=0
   ·rw[decide_eq_true h0];simp(disch:=omega)only[z5,rs]
   ·rw[decide_eq_false h0];simp(disch:=omega)only[z5,rs];rw[ah]
  ·simp(disch:=omega)only[z5,rs]
 unfold qq9 qd4;rw[hL,ax];cases(n.2.1.getD t ae.z).2.1.any (fun p=>decide (m.getD p.toNat 0=0))<;>rfl
theorem q84(c:Int)(l:List Int)(i:Nat)(hi:i<l.length)(m:List Int):vc c (l.take (i+1)) m=(vc c (l.take i) m).set (l.getD i 0).toNat ((vc c (l.take i) m).getD (l.getD i 0).toNat 0+c):=by
 unfold vc;rw[d7 l i 0 hi,List.foldl_append];rfl
theorem jkl{l:List Int}(h:l.Pairwise (·<·))(i:Nat):(l.take i).Pairwise (·<·):=h.sublist (List.take_sublist i l)
theorem jr4(a b:List Int)(ha:a.length≤1000000):tk a b=some (decide (a=b)):=by
 unfold tk;by_cases hl:a.length=b.length
 ·rw[qq2 (by simp[hl])];have hloop:qev a b 0=some (bif (List.range a.length).all (fun i=>decide (a.getD i 0=b.getD i 0))then .inl ()else .inr false):=by
   refine rb (fun i:Nat=>(i:Int)) a.length (bc (by omega)) _ () false ?_ ?_ ?_
   ·intro i hi hp;have hp' :a.getD i 0=b.getD i 0:=of_decide_eq_true hp;simp(disch:=omega)only[jo,rs];rw[ah]
   ·intro i hi hp;have hp' :a.getD i 0≠b.getD i 0:=of_decide_eq_false hp;simp(disch:=omega)only[jo,rs]
   ·simp(disch:=omega)only[jo,rs]
  rw[hloop,ax];have hall:(List.range a.length).all (fun i=>decide (a.getD i 0=b.getD i 0))=decide (a=b):=by
   rw[Bool.eq_iff_iff,List.all_eq_true,decide_eq_true_iff];constructor
   ·intro h;refine List.ext_getElem hl fun i h1 h2=> ?_
    have:=of_decide_eq_true (h i (List.mem_range.2 h1));rw[zf a i 0 h1,zf b i 0 h2]at this;exact this
   ·rintro rfl i _;simp
  rw[hall];cases decide (a=b)<;>rfl
 ·have:¬a=b:=fun h=>hl (by rw[h])
  rw[qq3 (by simp;omega),decide_eq_false this]
def jfl(st:List (List Int))(m:List Int):Int:=jht (fun x:List Int=>decide (x=m)) st
theorem jih(s:dm)(m:List Int)(hs:s.1.length≤1000000)(hr:∀x∈s.1,x.length≤1000000):qme s m=some (jfl s.1 m):=by
 have hL:qwn m s.1 s.2.1 s.2.2.1 0=some (q4y (fun i=>(i:Int)) (vx (fun x:List Int=>decide (x=m)) s.1)):=by
  refine sq s.1 [] (fun x:List Int=>decide (x=m)) (fun i=>(i:Int)) (by omega) (fun i hi=> ?_) ?_
  ·have h1:=jr4 (s.1.getD i []) m (hr _ (au [] hi));simp(disch:=omega)only[qc0,h1,rs];rw[ah];cases decide (s.1.getD i []=m)<;>rfl
  ·simp(disch:=omega)only[qc0,rs]
 unfold qme;rw[hL,ax];exact qe8 _ _
theorem jdo{n:bp}(hv:ck n=true):1≤n.1∧n.1≤40∧0≤n.2.2.2.1∧n.2.2.2.1<n.1∧n.2.1.length≤60:=by
 unfold ck at hv;simp only[Bool.and_eq_true,decide_eq_true_eq]at hv;exact⟨hv.1.1.1.1.1,hv.1.1.1.1.2,hv.2.1,hv.2.2,hv.1.1.1.2⟩
theorem jn5{n:bp}{m:List Int}{t:Nat}(ht:t<n.2.1.length)(htl:n.2.1.length≤1000)(F:FireF n m (n.2.1.getD t ae.z)):qhv n m (t:Int)=some (mt n.1 (im (n.2.1.getD t ae.z) m),im (n.2.1.getD t ae.z) m):=by
 have hN:=F.N;have hml:=F.ml;have hl1:=F.l1;have hl2:=F.l2;have h0:qsv n.1 n.2.1 n.2.2.1 n.2.2.2.1 (n.2.1.getD t ae.z).1 (n.2.1.getD t ae.z).2.1 (n.2.1.getD t ae.z).2.2.1 (0,m)=some (.inl (vc (-1) (n.2.1.getD t ae.z).2.1 m)):=by
  have e:vc (-1) (n.2.1.getD t ae.z).2.1 m=vc (-1) ((n.2.1.getD t ae.z).2.1.take (n.2.1.getD t ae.z).2.1.length) m:=by rw[List.take_length]
  rw[e];refine cn (fun i:Nat=>((i:Int),vc (-1) ((n.2.1.getD t ae.z).2.1.take i) m)) (n.2.1.getD t ae.z).2.1.length (bc (by omega)) _ (fun i hi=> ?_) ?_ _ rfl
  ·have hb:=F.i1 _ (au 0 hi);have hq:=F.mb ((n.2.1.getD t ae.z).2.1.getD i 0).toNat (by omega);have hlen:(vc (-1) ((n.2.1.getD t ae.z).2.1.take i) m).length=m.length:=qi2 _ _ _;have hat:=qt7 (-1) ((n.2.1.getD t ae.z).2.1.take i) m (jkl F.s1 i) (fun p hp=>F.i1 p (List.mem_of_mem_take hp)) ((n.2.1.getD t ae.z).2.1.getD i 0).toNat;have hbd: -1≤(vc (-1) ((n.2.1.getD t ae.z).2.1.take i) m).getD ((n.2.1.getD t ae.z).2.1.getD i 0).toNat 0∧(vc (-1) ((n.2.1.getD t ae.z).2.1.take i) m).getD ((n.2.1.getD t ae.z).2.1.getD i 0).toNat 0≤100:=by
    rw[hat];split<;>omega
   rw[q84 (-1) _ i hi];simp(disch:=omega)only[z8,hlen,rs];rw[ah];rfl
  ·simp(disch:=omega)only[z8,rs]
 have h1:qsw n.1 n.2.1 n.2.2.1 n.2.2.2.1 (n.2.1.getD t ae.z).1 (n.2.1.getD t ae.z).2.1 (n.2.1.getD t ae.z).2.2.1 (0,vc (-1) (n.2.1.getD t ae.z).2.1 m)=some (.inl (im (n.2.1.getD t ae.z) m)):=by
  have e:im (n.2.1.getD t ae.z) m=vc 1 ((n.2.1.getD t ae.z).2.2.1.take (n.2.1.getD t ae.z).2.2.1.length) (vc (-1) (n.2.1.getD t ae.z).2.1 m):=by rw[List.take_length];rfl
  have hl0:=F.len1;rw[e];refine cn (fun i:Nat=>((i:Int),vc 1 ((n.2.1.getD t ae.z).2.2.1.take i) (vc (-1) (n.2.1.getD t ae.z).2.1 m))) (n.2.1.getD t ae.z).2.2.1.length (bc (by omega)) _ (fun i hi=> ?_) ?_ _ rfl
  ·have hb:=F.i2 _ (au 0 hi);have hq:=F.mb ((n.2.1.getD t ae.z).2.2.1.getD i 0).toNat (by omega);have hlen:(vc 1 ((n.2.1.getD t ae.z).2.2.1.take i) (vc (-1) (n.2.1.getD t ae.z).2.1 m)).length=m.length:=(qi2 _ _ _).trans hl0;have hat:=qt7 1 ((n.2.1.getD t ae.z).2.2.1.take i) (vc (-1) (n.2.1.getD t ae.z).2.1 m) (jkl F.s2 i) (fun p hp=>F.i2' p (List.mem_of_mem_take hp)) ((n.2.1.getD t ae.z).2.2.1.getD i 0).toNat;have hat1:=F.at1 ((n.2.1.getD t ae.z).2.2.1.getD i 0).toNat;have hbd: -1≤(vc 1 ((n.2.1.getD t ae.z).2.2.1.take i) (vc (-1) (n.2.1.getD t ae.z).2.1 m)).getD ((n.2.1.getD t ae.z).2.2.1.getD i 0).toNat 0∧(vc 1 ((n.2.1.getD t ae.z).2.2.1.take i) (vc (-1) (n.2.1.getD t ae.z).2.1 m)).getD ((n.2.1.getD t ae.z).2.2.1.getD i 0).toNat 0≤101:=by
    rw[hat,hat1];split<;>split<;>omega
   rw[q84 1 _ i hi];simp(disch:=omega)only[z9,hlen,rs];rw[ah]
  ·simp(disch:=omega)only[z9,rs]
 have hlen:=F.len;have h2:=qsy n (im (n.2.1.getD t ae.z) m) (by omega);have hap:([]:List Int)++m=m:=rfl;unfold qhv;simp(disch:=omega)only[hap,h0,h1,h2,rs]
abbrev Sig:Type:=Bool×List (List Int)×List ar
abbrev df(σ:Sig)(i:Nat):List Int:=σ.2.1.getD i []
abbrev trA(n:bp)(t:Nat):ae:=n.2.1.getD t ae.z
def mvA(i k t:Nat):ar:=((i:Int),(k:Int),(t:Int),())
def jby(σ:Sig)(x:List Int):Option Nat:=vx (fun y:List Int=>decide (y=x)) σ.2.1
def qey(n:bp)(M i:Nat)(σ:Sig)(t:Nat):Sig:=
 bif qd4 (trA n t) (df σ i)then
  bif mt n.1 (im (trA n t) (df σ i))then
   match jby σ (im (trA n t) (df σ i))with
   |some k=>(σ.1,σ.2.1,σ.2.2++[mvA i k t])
   |none=>if σ.2.1.length<M then(σ.1,σ.2.1++[im (trA n t) (df σ i)],σ.2.2++[mvA i σ.2.1.length t])else(false,σ.2.1,σ.2.2)
  else(false,σ.2.1,σ.2.2)
 else σ
abbrev lz(n:bp)(M i:Nat)(l:List Nat)(σ:Sig):Sig:=l.foldl (qey n M i) σ
def qo4(n:bp)(M:Nat):Nat→Nat→Sig→Sig
 |0,_,σ=>σ
 |f+1,i,σ=>if i<σ.2.1.length then qo4 n M f (i+1) (lz n M i (List.range n.2.1.length) σ)else σ
theorem qdy(n:bp)(M i:Nat)(σ:Sig)(t:Nat):
  (qd4 (trA n t) (df σ i)=false∧qey n M i σ t=σ)∨
  (qd4 (trA n t) (df σ i)=true∧mt n.1 (im (trA n t) (df σ i))=false∧qey n M i σ t=(false,σ.2.1,σ.2.2))∨
  (qd4 (trA n t) (df σ i)=true∧mt n.1 (im (trA n t) (df σ i))=true∧∃k,jby σ (im (trA n t) (df σ i))=some k∧qey n M i σ t=(σ.1,σ.2.1,σ.2.2++[mvA i k t]))∨
  (qd4 (trA n t) (df σ i)=true∧mt n.1 (im (trA n t) (df σ i))=true∧jby σ (im (trA n t) (df σ i))=none∧σ.2.1.length<M∧qey n M i σ t=(σ.1,σ.2.1++[im (trA n t) (df σ i)],σ.2.2++[mvA i σ.2.1.length t]))∨
  (qd4 (trA n t) (df σ i)=true∧mt n.1 (im (trA n t) (df σ i))=true∧jby σ (im (trA n t) (df σ i))=none∧¬σ.2.1.length<M∧qey n M i σ t=(false,σ.2.1,σ.2.2)):=by
 unfold qey;cases h1:qd4 (trA n t) (df σ i)with
 |false=>exact .inl ⟨rfl,rfl⟩
 |true=>
  cases h2:mt n.1 (im (trA n t) (df σ i))with
  |false=>exact .inr (.inl ⟨rfl,rfl,rfl⟩)
  |true=>
   cases h3:jby σ (im (trA n t) (df σ i))with
   |some k=>exact .inr (.inr (.inl ⟨rfl,rfl,k,rfl,rfl⟩))
   |none=>
    by_cases h4:σ.2.1.length<M
    ·refine .inr (.inr (.inr (.inl ⟨rfl,rfl,rfl,h4,?_⟩)));simp only[cond_true,if_pos h4]
    ·refine .inr (.inr (.inr (.inr ⟨rfl,rfl,rfl,h4,?_⟩)));simp only[cond_true,if_neg h4]
theorem jpi{σ:Sig}{x:List Int}{k:Nat}(h:jby σ x=some k):k<σ.2.1.length∧df σ k=x:=by
 obtain⟨h1,h2,_⟩:=qx0 [] h;exact⟨h1,of_decide_eq_true h2⟩
theorem jph{σ:Sig}{x:List Int}(h:jby σ x=none):x∉σ.2.1:=fun hx=>by
 have:=qxz h x hx;exact absurd rfl (of_decide_eq_false this)
theorem je6{α:Type}(l:List α)(x d:α)(i:Nat)(h:i<l.length):(l++[x]).getD i d=l.getD i d:=by
 rw[List.getD_eq_getElem?_getD,List.getD_eq_getElem?_getD,List.getElem?_append_left h]
theorem jmc{α:Type}(l:List α)(x d:α):(l++[x]).getD l.length d=x:=by
 rw[List.getD_eq_getElem?_getD,List.getElem?_append_right (Nat.le_refl _),Nat.sub_self];rfl
structure SpI (n : bp) (M : Nat) (σ : Sig) : Prop where
 mks : ∀ x ∈ σ.2.1, mt n.1 x = true
 nd : σ.2.1.Nodup
 len : σ.2.1.length ≤ M
 pos : 0 < σ.2.1.length
theorem SpI.flag{n:bp}{M:Nat}{σ:Sig}(h:SpI n M σ)(b:Bool)(mv:List ar):SpI n M (b,σ.2.1,mv):=⟨h.mks,h.nd,h.len,h.pos⟩
theorem SpI.push{n:bp}{M:Nat}{σ:Sig}(h:SpI n M σ)(b:Bool)(mv:List ar){x:List Int}(hx:mt n.1 x=true)(hn:x∉σ.2.1)(hl:σ.2.1.length<M):SpI n M (b,σ.2.1++[x],mv):=by
 refine⟨fun y hy=> ?_,?_,by simp;omega,by simp⟩
 ·rcases List.mem_append.1 hy with hy|hy
  ·exact h.mks y hy
  ·rw[List.mem_singleton.1 hy];exact hx
 ·exact List.nodup_append.2 ⟨h.nd,by simp,fun a ha b hb=>by rw[List.mem_singleton.1 hb];exact fun e=>hn (e▸ha)⟩
theorem SpI.step{n:bp}{M i:Nat}{σ:Sig}(h:SpI n M σ)(t:Nat):SpI n M (qey n M i σ t):=by
 rcases qdy n M i σ t with⟨_,e⟩|⟨_,_,e⟩|⟨_,_,k,_,e⟩|⟨_,h2,h3,h4,e⟩|⟨_,_,_,_,e⟩<;>rw[e]
 ·exact h
 ·exact h.flag _ _
 ·exact h.flag _ _
 ·exact h.push _ _ h2 (jph h3) h4
 ·exact h.flag _ _
theorem q7r{n:bp}{M i:Nat}{σ:Sig}{j:Nat}(hj:j<σ.2.1.length)(t:Nat):df (qey n M i σ t) j=df σ j∧σ.2.1.length≤(qey n M i σ t).2.1.length:=by
 rcases qdy n M i σ t with⟨_,e⟩|⟨_,_,e⟩|⟨_,_,k,_,e⟩|⟨_,h2,h3,h4,e⟩|⟨_,_,_,_,e⟩<;>rw[e]
 ·exact⟨rfl,Nat.le_refl _⟩
 ·exact⟨rfl,Nat.le_refl _⟩
 ·exact⟨rfl,Nat.le_refl _⟩
 ·exact⟨je6 _ _ _ _ hj,by simp⟩
 ·exact⟨rfl,Nat.le_refl _⟩
theorem jrg(n:bp)(M i:Nat)(σ:Sig)(t:Nat):(qey n M i σ t).2.2.length≤σ.2.2.length+1:=by
 rcases qdy n M i σ t with⟨_,e⟩|⟨_,_,e⟩|⟨_,_,k,_,e⟩|⟨_,h2,h3,h4,e⟩|⟨_,_,_,_,e⟩<;>rw[e]<;>simp
theorem qmk{n:bp}{M i:Nat}:∀(l:List Nat) {σ:Sig},SpI n M σ→SpI n M (lz n M i l σ)∧(∀j,j<σ.2.1.length→df (lz n M i l σ) j=df σ j)∧σ.2.1.length≤(lz n M i l σ).2.1.length∧(lz n M i l σ).2.2.length≤σ.2.2.length+l.length
 |[],σ,h=>⟨h,fun _ _=>rfl,Nat.le_refl _,Nat.le_refl _⟩
 |t::l,σ,h=>by
  obtain⟨h1,h2,h3,h4⟩:=qmk (n:=n) (M:=M) (i:=i) l (h.step (i:=i) t);have h5:=q7r (n:=n) (M:=M) (i:=i) (σ:=σ) h.pos t;have h6:=jrg n M i σ t;refine⟨h1,fun j hj=>(h2 j (by omega)).trans (q7r hj t).1,Nat.le_trans h5.2 h3,?_⟩;have:(lz n M i (t::l) σ).2.2.length≤(qey n M i σ t).2.2.length+l.length:=h4;simp only[List.length_cons];omega
theorem jtg{S E R:Type}{step:S→Option (LR S E R)}{o:E⊕R}{n:Nat}{s:S}(h:qva step n s=some o)(hn:n<many):a8 step s=some o:=q9o h (by omega)
def j19(m:List Int):Sig:=(true,[m],[])
theorem jkv{n:bp}{M:Nat}{m:List Int}(hm:mt n.1 m=true)(hM:1≤M):SpI n M (j19 m):=by
 refine⟨fun x hx=> ?_,List.pairwise_singleton _ _,by show 1≤M;exact hM,Nat.one_pos⟩;rw[List.mem_singleton.1 hx];exact hm
def spc(n:bp)(M:Nat)(m:List Int):Sig:=qo4 n M (M+1) 0 (j19 m)
theorem jmr{σ:Sig}{x:List Int}{k:Nat}(h:jby σ x=some k):jfl σ.2.1 x=(k:Int):=by
 unfold jfl jht;rw[show vx (fun y:List Int=>decide (y=x)) σ.2.1=some k from h]
theorem q9w{σ:Sig}{x:List Int}(h:jby σ x=none):jfl σ.2.1 x= -1:=by
 unfold jfl jht;rw[show vx (fun y:List Int=>decide (y=x)) σ.2.1=none from h]
def jtq(a b:ar):Prop:=a.1<b.1∨a.1=b.1∧a.2.2.1<b.2.2.1
structure GI (n : bp) (M : Nat) (m : List Int) (i d : Nat) (σ : Sig) : Prop where
 sp : SpI n M σ
 mv : ∀ x ∈ σ.2.2, ∃ a b t, x = mvA a b t ∧ (a < i ∨ a = i ∧ t < d) ∧ a < σ.2.1.length ∧ b < σ.2.1.length ∧ t < n.2.1.length ∧ qd4 (trA n t) (df σ a) = true ∧ im (trA n t) (df σ a) = df σ b
 srt : σ.2.2.Pairwise jtq
 full : σ.1 = true → ∀ a t, (a < i ∨ a = i ∧ t < d) → a < σ.2.1.length → t < n.2.1.length → qd4 (trA n t) (df σ a) = true → ∃ b, mvA a b t ∈ σ.2.2
 rch : ∀ j, 0 < j → j < σ.2.1.length → ∃ a t, a < j ∧ mvA a j t ∈ σ.2.2
 fst : df σ 0 = m
 ml : σ.2.2.length ≤ i * n.2.1.length + d
theorem GI.ex{n:bp}{M:Nat}{m:List Int}{i d:Nat}{σ:Sig}(h:GI n M m i d σ){st:List (List Int)}{b0:Nat}(hi:i<σ.2.1.length)(ht:d<n.2.1.length)(hst:∀j,j<σ.2.1.length→st.getD j []=df σ j)(hlen:σ.2.1.length≤st.length)(hb:b0<st.length)(hc:qd4 (trA n d) (df σ i)=true)(hf:im (trA n d) (df σ i)=st.getD b0 []):
  (∀x∈σ.2.2++[mvA i b0 d],∃a b t,x=mvA a b t∧(a<i∨a=i∧t<d+1)∧a<st.length∧b<st.length∧t<n.2.1.length∧qd4 (trA n t) (st.getD a [])=true∧im (trA n t) (st.getD a [])=st.getD b [])∧(σ.2.2++[mvA i b0 d]).Pairwise jtq:=by
 refine⟨fun x hx=> ?_,List.pairwise_append.2 ⟨h.srt,List.pairwise_singleton _ _,fun x hx y hy=> ?_⟩⟩
 ·rcases List.mem_append.1 hx with hx|hx
  ·obtain⟨a,b,t,e,h1,h2,h3,h4,h5,h6⟩:=h.mv x hx;exact⟨a,b,t,e,by omega,by omega,by omega,h4,by rw[hst a h2];exact h5,by rw[hst a h2,hst b h3];exact h6⟩
  ·rw[List.mem_singleton.1 hx];exact⟨i,b0,d,rfl,by omega,by omega,hb,ht,by rw[hst i hi];exact hc,by rw[hst i hi];exact hf⟩
 ·obtain⟨a,b,t,rfl,h1,_⟩:=h.mv x hx;rw[List.mem_singleton.1 hy];unfold jtq mvA;simp only[];omega
theorem GI.step{n:bp}{M:Nat}{m:List Int}{i d:Nat}{σ:Sig}(h:GI n M m i d σ)(hi:i<σ.2.1.length)(ht:d<n.2.1.length):GI n M m i (d+1) (qey n M i σ d):=by
 have hsp:=h.sp.step (i:=i) d;rcases qdy n M i σ d with⟨g1,e⟩|⟨g1,g2,e⟩|⟨g1,g2,q,g3,e⟩|⟨g1,g2,g3,g4,e⟩|⟨g1,g2,g3,g4,e⟩<;>rw[e]at hsp⊢
 ·refine⟨hsp,fun x hx=> ?_,h.srt,fun hf a t hat ha ht' hc=> ?_,h.rch,h.fst,by have:=h.ml;omega⟩
  ·obtain⟨a,b,t,e,h1,h2⟩:=h.mv x hx;exact⟨a,b,t,e,by omega,h2⟩
  ·by_cases hd:a=i∧t=d
   ·obtain⟨rfl,rfl⟩:=hd;rw[g1]at hc;cases hc
   ·exact h.full hf a t (by omega) ha ht' hc
 ·refine⟨hsp,fun x hx=> ?_,h.srt,(fun hf=>by cases hf),h.rch,h.fst,by have:=h.ml;show σ.2.2.length≤_;omega⟩;obtain⟨a,b,t,e,h1,h2⟩:=h.mv x hx;exact⟨a,b,t,e,by omega,h2⟩
 ·obtain⟨q1,q2⟩:=jpi g3;obtain⟨m1,m2⟩:=h.ex (st:=σ.2.1) (b0:=q) hi ht (fun _ _=>rfl) (Nat.le_refl _) q1 g1 q2.symm;refine⟨hsp,m1,m2,fun hf a t hat ha ht' hc=> ?_,fun j h0 hj=> ?_,h.fst,by have:=h.ml;simp only[List.length_append,List.length_cons,List.length_nil];omega⟩
  ·by_cases hd:a=i∧t=d
   ·obtain⟨rfl,rfl⟩:=hd;exact⟨q,List.mem_append_right _ (List.mem_singleton.2 rfl)⟩
   ·obtain⟨b,hb⟩:=h.full hf a t (by omega) ha ht' hc;exact⟨b,List.mem_append_left _ hb⟩
  ·obtain⟨a,t,h1,h2⟩:=h.rch j h0 hj;exact⟨a,t,h1,List.mem_append_left _ h2⟩
 ·have hst:∀j,j<σ.2.1.length→(σ.2.1++[im (trA n d) (df σ i)]).getD j []=df σ j:=fun j hj=>je6 _ _ _ _ hj
  obtain⟨m1,m2⟩:=h.ex (st:=σ.2.1++[im (trA n d) (df σ i)]) (b0:=σ.2.1.length) hi ht hst (by simp) (by simp) g1 (jmc _ _ _).symm;refine⟨hsp,m1,m2,fun hf a t hat ha ht' hc=> ?_,fun j h0 hj=> ?_,(hst 0 h.sp.pos).trans h.fst,by have:=h.ml;simp only[List.length_append,List.length_cons,List.length_nil];omega⟩
  ·by_cases hd:a=i∧t=d
   ·obtain⟨rfl,rfl⟩:=hd;exact⟨_,List.mem_append_right _ (List.mem_singleton.2 rfl)⟩
   ·have ha' :a<σ.2.1.length:=by omega
    have hc' :qd4 (trA n t) (df σ a)=true:=by rw[←hst a ha'];exact hc
    obtain⟨b,hb⟩:=h.full hf a t (by omega) ha' ht' hc';exact⟨b,List.mem_append_left _ hb⟩
  ·by_cases hjl:j<σ.2.1.length
   ·obtain⟨a,t,h1,h2⟩:=h.rch j h0 hjl;exact⟨a,t,h1,List.mem_append_left _ h2⟩
   ·have:j=σ.2.1.length:=by simp only[List.length_append,List.length_cons,List.length_nil]at hj;omega
    subst this;exact⟨i,d,hi,List.mem_append_right _ (List.mem_singleton.2 rfl)⟩
 ·refine⟨hsp,fun x hx=> ?_,h.srt,(fun hf=>by cases hf),h.rch,h.fst,by have:=h.ml;show σ.2.2.length≤_;omega⟩;obtain⟨a,b,t,e,h1,h2⟩:=h.mv x hx;exact⟨a,b,t,e,by omega,h2⟩
theorem GI.row{n:bp}{M:Nat}{m:List Int}{i:Nat}{σ:Sig}(h:GI n M m i 0 σ)(hi:i<σ.2.1.length):GI n M m (i+1) 0 (lz n M i (List.range n.2.1.length) σ):=by
 have key:∀d,d≤n.2.1.length→GI n M m i d (lz n M i (List.range d) σ)∧i<(lz n M i (List.range d) σ).2.1.length:=fun d=>by
  induction d with
  |zero=>intro _;exact⟨h,hi⟩
  |succ d ih=>
   intro hd;obtain⟨h1,h2⟩:=ih (by omega);have e1:lz n M i (List.range (d+1)) σ=qey n M i (lz n M i (List.range d) σ) d:=by
    rw[List.range_succ];unfold lz;rw[List.foldl_append];rfl
   rw[e1];exact⟨h1.step h2 (by omega),Nat.lt_of_lt_of_le h2 (q7r h2 d).2⟩
 obtain⟨h1,_⟩:=key n.2.1.length (Nat.le_refl _);refine⟨h1.sp,fun x hx=> ?_,h1.srt,fun hf a t hat ha ht hc=>h1.full hf a t (by omega) ha ht hc,h1.rch,h1.fst,by have:=h1.ml;rw[Nat.add_mul];omega⟩;obtain⟨a,b,t,e,g1,g2⟩:=h1.mv x hx;exact⟨a,b,t,e,by omega,g2⟩
theorem GI.expl{n:bp}{M:Nat}{m:List Int}:∀(f i:Nat) {σ:Sig},GI n M m i 0 σ→i≤σ.2.1.length→M<f+i→∃k,GI n M m k 0 (qo4 n M f i σ)∧k=(qo4 n M f i σ).2.1.length
 |0,i,σ,h,hi,hf=>⟨i,h,by have:=h.sp.len;show i=σ.2.1.length;omega⟩
 |f+1,i,σ,h,hi,hf=>by
  unfold qo4;by_cases hlt:i<σ.2.1.length
  ·rw[if_pos hlt];have:=(qmk (n:=n) (M:=M) (i:=i) (List.range n.2.1.length) h.sp).2.2.1;exact GI.expl f (i+1) (h.row hlt) (by omega) (by omega)
  ·rw[if_neg hlt];exact⟨i,h,by omega⟩
structure SpcOK (n : bp) (M : Nat) (m : List Int) (σ : Sig) : Prop where
 sp : SpI n M σ
 mv : ∀ x ∈ σ.2.2, ∃ a b t, x = mvA a b t ∧ a < σ.2.1.length ∧ b < σ.2.1.length ∧ t < n.2.1.length ∧ qd4 (trA n t) (df σ a) = true ∧ im (trA n t) (df σ a) = df σ b
 srt : σ.2.2.Pairwise jtq
 full : σ.1 = true → ∀ a t, a < σ.2.1.length → t < n.2.1.length → qd4 (trA n t) (df σ a) = true → ∃ b, mvA a b t ∈ σ.2.2
 rch : ∀ j, 0 < j → j < σ.2.1.length → ∃ a t, a < j ∧ mvA a j t ∈ σ.2.2
 fst : df σ 0 = m
 ml : σ.2.2.length ≤ M * n.2.1.length
theorem jrf{n:bp}{M:Nat}{m:List Int}(hm:mt n.1 m=true)(hM:1≤M):SpcOK n M m (spc n M m):=by
 have h0:GI n M m 0 0 (j19 m):=by
  refine⟨jkv hm hM,(fun x hx=>by cases hx),List.Pairwise.nil,fun _ a t hat=>by omega,fun j h0 hj=> ?_,rfl,Nat.zero_le _⟩;have:j<1:=hj;omega
 obtain⟨k,h1,hk⟩:=GI.expl (M+1) 0 h0 (Nat.zero_le _) (by omega);have hlen:=h1.sp.len;refine⟨h1.sp,fun x hx=> ?_,h1.srt,fun hf a t ha ht hc=>h1.full hf a t (by show a<k∨_;rw[hk];exact .inl ha) ha ht hc,h1.rch,h1.fst,Nat.le_trans h1.ml (Nat.mul_le_mul_right _ (by rw[hk];exact hlen))⟩;obtain⟨a,b,t,e,_,g2⟩:=h1.mv x hx;exact⟨a,b,t,e,g2⟩
end Go.Proofs.YtclbndfjhjladaaGreat
set_option linter.all false
namespace Go.Proofs.YtclbndfjhjladaaGreat
open Go.K Go.M
def jgq{S E R:Type}(Inv:S→Prop)(μ:S→Nat)(post:E⊕R→Prop)(k:Nat):LR S E R→Prop
 | .next s=>Inv s∧μ s<k
 | .done e=>post (.inl e)
 | .ret r=>post (.inr r)
theorem wg{S E R:Type}{step:S→Option (LR S E R)}(Inv:S→Prop)(μ:S→Nat)(post:E⊕R→Prop)(s:S)(hs:Inv s)(hμ:μ s<many)(h:∀s,Inv s→∃x,step s=some x∧jgq Inv μ post (μ s) x):∃o,a8 step s=some o∧post o:=
 og Inv μ post s hs hμ fun s hs=>by
  obtain⟨x,hx,hp⟩:=h s hs;refine⟨x,hx,?_⟩;cases x<;>exact hp
abbrev jfu:dm×Int:=(([],[],false,()),13)
theorem js7{n:bp}(h:Small n)(hv:ck n=true){M:Nat}(hM:M≤1000){σ:Sig}(hs:SpI n M σ){i:Nat}(hi:i<σ.2.1.length)(hmv:σ.2.2.length≤20000):
  ∃o,qnz (M:Int) (i:Int) n.1 n.2.1 n.2.2.1 n.2.2.2.1 [] [] false (0,σ.1,σ.2.1,σ.2.2)=some o∧
   ((o= .inl ((lz n M i (List.range n.2.1.length) σ).1,(lz n M i (List.range n.2.1.length) σ).2.1,(lz n M i (List.range n.2.1.length) σ).2.2)∧(lz n M i (List.range n.2.1.length) σ).2.2.length≤20000)∨o= .inr jfu):=by
 have hT:=h.trans;have hN:=jdo hv;refine wg (step:=fun a:Int×Bool×List (List Int)×List ar=>cx (R:=LR (Int×Bool×List (List Int)×List ar) (Bool×List (List Int)×List ar) (dm×Int)) (M:Int) (i:Int) n.1 n.2.1 n.2.2.1 n.2.2.2.1 [] [] false a.1 a.2.1 a.2.2.1 a.2.2.2 (fun a' =>some (.next a')) (fun e=>some (.done e)) (fun r=>some (.ret r)))
  (fun a=>∃t:Nat,a=((t:Int),(lz n M i (List.range t) σ).1,(lz n M i (List.range t) σ).2.1,(lz n M i (List.range t) σ).2.2)∧t≤n.2.1.length∧(lz n M i (List.range t) σ).2.2.length≤20000) (fun a=>n.2.1.length-a.1.toNat)
  (fun o=>(o= .inl ((lz n M i (List.range n.2.1.length) σ).1,(lz n M i (List.range n.2.1.length) σ).2.1,(lz n M i (List.range n.2.1.length) σ).2.2)∧(lz n M i (List.range n.2.1.length) σ).2.2.length≤20000)∨o= .inr jfu)
  _ ⟨0,rfl,Nat.zero_le _,hmv⟩ (by show n.2.1.length-(0:Int).toNat<many;have:=bc (n:=n.2.1.length) (by omega);omega) ?_
 rintro a ⟨t,rfl,ht0,hlen⟩;by_cases ht:t<n.2.1.length
 ·obtain⟨f1,f2,f3,f4⟩:=qmk (n:=n) (M:=M) (i:=i) (List.range t) hs;have e1:lz n M i (List.range (t+1)) σ=qey n M i (lz n M i (List.range t) σ) t:=by
   rw[List.range_succ];unfold lz;rw[List.foldl_append];rfl
  have hst:=f2 i hi;have fin:∀τ,lz n M i (List.range (t+1)) σ=τ→τ.2.2.length≤20000→jgq (fun a:Int×Bool×List (List Int)×List ar=>∃t:Nat,a=((t:Int),(lz n M i (List.range t) σ).1,(lz n M i (List.range t) σ).2.1,(lz n M i (List.range t) σ).2.2)∧t≤n.2.1.length∧(lz n M i (List.range t) σ).2.2.length≤20000) (fun a=>n.2.1.length-a.1.toNat)
    (fun o:(Bool×List (List Int)×List ar)⊕(dm×Int)=>(o= .inl ((lz n M i (List.range n.2.1.length) σ).1,(lz n M i (List.range n.2.1.length) σ).2.1,(lz n M i (List.range n.2.1.length) σ).2.2)∧(lz n M i (List.range n.2.1.length) σ).2.2.length≤20000)∨o= .inr jfu) (n.2.1.length-(t:Int).toNat) (.next (((t+1:Nat):Int),τ.1,τ.2.1,τ.2.2)):=fun τ e hl=>by
   refine⟨⟨t+1,by rw[e],by omega,by rw[e];exact hl⟩,?_⟩;show n.2.1.length-((t+1:Nat):Int).toNat<n.2.1.length-(t:Int).toNat;omega
  have bad:jgq (fun a:Int×Bool×List (List Int)×List ar=>∃t:Nat,a=((t:Int),(lz n M i (List.range t) σ).1,(lz n M i (List.range t) σ).2.1,(lz n M i (List.range t) σ).2.2)∧t≤n.2.1.length∧(lz n M i (List.range t) σ).2.2.length≤20000) (fun a=>n.2.1.length-a.1.toNat)
    (fun o:(Bool×List (List Int)×List ar)⊕(dm×Int)=>(o= .inl ((lz n M i (List.range n.2.1.length) σ).1,(lz n M i (List.range n.2.1.length) σ).2.1,(lz n M i (List.range n.2.1.length) σ).2.2)∧(lz n M i (List.range n.2.1.length) σ).2.2.length≤20000)∨o= .inr jfu) (n.2.1.length-(t:Int).toNat) (.ret jfu):= .inr rfl
  generalize lz n M i (List.range t) σ=τ at f1 f2 f3 f4 e1 hst hlen;have fin:=fun τ' (e:qey n M i τ t=τ')=>fin τ' (e1.trans e)
  have hil:i<τ.2.1.length:=by omega
  have hmS:mt n.1 (df τ i)=true:=f1.mks _ (au [] hil);have F:=jpf h hv hmS ht;have hC:=jm8 ht F;have hA:=jn5 ht (by omega) F;have en:((n.1,n.2.1,n.2.2.1,n.2.2.2.1,()):bp)=n:=rfl;have hlenM:=f1.len;have hFd:=jih (τ.2.1,τ.2.2,τ.1,()) (im (n.2.1.getD t ae.z) (df τ i)) (by show τ.2.1.length≤_;omega) (fun x hx=>by have:=(sr.1 (f1.mks x hx)).1;omega);show∃x,cx (M:Int) (i:Int) n.1 n.2.1 n.2.2.1 n.2.2.2.1 [] [] false (t:Int) τ.1 τ.2.1 τ.2.2 _ _ _=some x∧_;rcases qdy n M i τ t with⟨g1,e⟩|⟨g1,g2,e⟩|⟨g1,g2,q,g3,e⟩|⟨g1,g2,g3,g4,e⟩|⟨g1,g2,g3,g4,e⟩
  ·refine⟨_,?_,fin _ e hlen⟩;rw[show qd4 (n.2.1.getD t ae.z) (df τ i)=false from g1]at hC;simp(disch:=omega)only[cx,bi,ek,en,hC,Bool.not_false,ah,rs]
  ·refine⟨_,?_,fin _ e hlen⟩;rw[show qd4 (n.2.1.getD t ae.z) (df τ i)=true from g1]at hC;rw[show mt n.1 (im (n.2.1.getD t ae.z) (df τ i))=false from g2]at hA;simp(disch:=omega)only[cx,bi,ek,c9,gc,en,hC,hA,Bool.not_true,ah,rs]
  ·rw[show qd4 (n.2.1.getD t ae.z) (df τ i)=true from g1]at hC;rw[show mt n.1 (im (n.2.1.getD t ae.z) (df τ i))=true from g2]at hA;rw[show jfl (τ.2.1,τ.2.2,τ.1,()).1 (im (n.2.1.getD t ae.z) (df τ i))=(q:Int)from jmr g3]at hFd;by_cases hl:(τ.2.2.length:Int)=20000
   ·refine⟨_,?_,bad⟩;have hd2:decide ((τ.2.2.length:Int)=20000)=true:=decide_eq_true hl;simp(disch:=omega)only[cx,bi,ek,c9,gc,dh,i7,en,hC,hA,hFd,hd2,Bool.not_true,ah,rs]
   ·refine⟨_,?_,fin _ e (by show(τ.2.2++[mvA i q t]).length≤20000;rw[List.length_append];show _+1≤20000;omega)⟩;have hd2:decide ((τ.2.2.length:Int)=20000)=false:=decide_eq_false hl;simp(disch:=omega)only[cx,bi,ek,c9,gc,dh,i7,en,hC,hA,hFd,hd2,Bool.not_true,ah,rs];rfl
  ·rw[show qd4 (n.2.1.getD t ae.z) (df τ i)=true from g1]at hC;rw[show mt n.1 (im (n.2.1.getD t ae.z) (df τ i))=true from g2]at hA;rw[show jfl (τ.2.1,τ.2.2,τ.1,()).1 (im (n.2.1.getD t ae.z) (df τ i))= -1 from q9w g3]at hFd;have hd:decide ((τ.2.1.length:Int)<(M:Int))=true:=decide_eq_true (by omega);by_cases hl:(τ.2.2.length:Int)=20000
   ·refine⟨_,?_,bad⟩;have hd2:decide ((τ.2.2.length:Int)=20000)=true:=decide_eq_true hl;simp(disch:=omega)only[cx,bi,ek,c9,gc,dh,i7,en,hC,hA,hFd,hd,hd2,Bool.not_true,ah,rs]
   ·refine⟨_,?_,fin _ e (by show(τ.2.2++[mvA i τ.2.1.length t]).length≤20000;rw[List.length_append];show _+1≤20000;omega)⟩;have hd2:decide ((τ.2.2.length:Int)=20000)=false:=decide_eq_false hl;simp(disch:=omega)only[cx,bi,ek,c9,gc,dh,i7,en,hC,hA,hFd,hd,hd2,Bool.not_true,ah,rs];rfl
  ·refine⟨_,?_,fin _ e hlen⟩;rw[show qd4 (n.2.1.getD t ae.z) (df τ i)=true from g1]at hC;rw[show mt n.1 (im (n.2.1.getD t ae.z) (df τ i))=true from g2]at hA;rw[show jfl (τ.2.1,τ.2.2,τ.1,()).1 (im (n.2.1.getD t ae.z) (df τ i))= -1 from q9w g3]at hFd;have hd:decide ((τ.2.1.length:Int)<(M:Int))=false:=decide_eq_false (by omega);simp(disch:=omega)only[cx,bi,ek,c9,gc,dh,i7,en,hC,hA,hFd,hd,Bool.not_true,ah,rs]
 ·have e:t=n.2.1.length:=by omega
  subst e;refine⟨.done _,?_, .inl ⟨rfl,hlen⟩⟩;simp(disch:=omega)only[cx,rs]
theorem js8{n:bp}(h:Small n)(hv:ck n=true){M:Nat}(hM:M≤1000):∀(f i:Nat) {σ:Sig},SpI n M σ→M<f+i→σ.2.2.length≤20000→
  ∃o,qva (fun a=>i6 (M:Int) n.1 n.2.1 n.2.2.1 n.2.2.2.1 [] [] false a.1 a.2.1 a.2.2.1 a.2.2.2 (fun a' =>some (.next a')) (fun e=>some (.done e)) (fun r=>some (.ret r))) (f+1) ((i:Int),σ.1,σ.2.1,σ.2.2)=some o∧
   (o= .inl ((qo4 n M f i σ).1,(qo4 n M f i σ).2.1,(qo4 n M f i σ).2.2)∨o= .inr jfu):=by
 intro f
 induction f with
 |zero=>
  intro i σ hs hf hm;have:=hs.len;refine⟨.inl (σ.1,σ.2.1,σ.2.2),?_, .inl rfl⟩;rw[n8];simp(disch:=omega)only[i6,rs];rfl
 |succ f ih=>
  intro i σ hs hf hm;have hlen:=hs.len;rw[n8];by_cases hi:i<σ.2.1.length
  ·have e0:qo4 n M (f+1) i σ=qo4 n M f (i+1) (lz n M i (List.range n.2.1.length) σ):=by
    show(if i<σ.2.1.length then _ else _)=_;rw[if_pos hi]
   obtain⟨o,hL,hp⟩:=js7 h hv hM hs hi hm;rcases hp with⟨rfl,hl⟩|rfl
   ·obtain⟨o,ihh,hp⟩:=ih (i+1) (qmk (n:=n) (M:=M) (i:=i) (List.range n.2.1.length) hs).1 (by omega) hl;refine⟨o,?_,by rw[e0];exact hp⟩;rw[←ihh];simp(disch:=omega)only[i6,hL,ah,rs];rfl
   ·refine⟨.inr jfu,?_, .inr rfl⟩;simp(disch:=omega)only[i6,hL,ah,rs];rfl
  ·have e0:qo4 n M (f+1) i σ=σ:=by
    show(if i<σ.2.1.length then _ else _)=_;rw[if_neg hi]
   refine⟨.inl (σ.1,σ.2.1,σ.2.2),?_, .inl (by rw[e0])⟩;simp(disch:=omega)only[i6,rs];rfl
theorem jhj{n:bp}(h:Small n){m:List Int}(hv:ck n=true)(hmk:mt n.1 m=true):wi n m 400=some (((spc n 400 m).2.1,(spc n 400 m).2.2,(spc n 400 m).1,()),0)∨wi n m 400=some jfu:=by
 have hml:=(sr.1 hmk).1;have hN:=jdo hv;have hV:=q1n h;have hK:=qsy n m (by omega);rw[hv]at hV;rw[hmk]at hK;obtain⟨o,hL,hp⟩:=js8 h hv (M:=400) (by omega) (400+1) 0 (jkv hmk (by omega)) (by omega) (Nat.zero_le _);have hL2:qeg ((400:Nat):Int) n.1 n.2.1 n.2.2.1 n.2.2.2.1 [] [] false (0,true,[m],[])=some o:=jtg hL (bc (by omega));have hL2:qeg 400 n.1 n.2.1 n.2.2.1 n.2.2.2.1 [] [] false (0,true,[m],[])=some o:=hL2;unfold wi;rcases hp with rfl|rfl
 ·refine .inl ?_;simp(disch:=omega)only[hV,hK,Bool.not_true,List.nil_append,hL2,rs];rfl
 ·refine .inr ?_;simp(disch:=omega)only[hV,hK,Bool.not_true,List.nil_append,hL2,rs]
end Go.Proofs.YtclbndfjhjladaaGreat
