/-
  Rotas: the search finds the first cheapest counts.
-/
import Derived.Test.YteljgpepodpebaaGreatZ3S2
set_option linter.all false
namespace Go.Proofs.YteljgpepodpebaaGreat
open Go.K Go.M
def qoe(k:Nat)(a c:List Int):Prop:=∀j,j<k→a.getD j 0=c.getD j 0
def qt6(d:List Int)(l:List ae)(P:List Int→Prop)(b:List Int)(fl:Option Bool)(v:Int):Prop:=
 (fl=some false∧b=[]∧∀a,Cnt l a→Cvr d l a→¬P a)∨
 (fl=none∧(Cnt l b∧Cvr d l b∧fw l b=v∧P b)∧∀a,Cnt l a→Cvr d l a→P a→v≤fw l a∧(fw l a=v→¬qay l.length a b))
theorem qt6.skip{d:List Int}{l:List ae}{P Q:List Int→Prop}{b:List Int}{fl:Option Bool}{v:Int}(h:qt6 d l P b fl v)(hq:∀a,Cnt l a→P a→Q a)
  (h2:∀a,Cnt l a→Cvr d l a→Q a→P a∨(fl=none∧v≤fw l a∧¬qay l.length a b)):qt6 d l Q b fl v:=by
 rcases h with⟨h3,h4,h5⟩|⟨h3,h4,h5⟩
 ·refine .inl ⟨h3,h4,fun a ha hc hp=> ?_⟩;rcases h2 a ha hc hp with h6|⟨h6,-⟩
  ·exact h5 a ha hc h6
  ·rw[h3]at h6;cases h6
 ·refine .inr ⟨h3,⟨h4.1,h4.2.1,h4.2.2.1,hq _ h4.1 h4.2.2.2⟩,fun a ha hc hp=> ?_⟩;rcases h2 a ha hc hp with h6|⟨-,h6,h7⟩
  ·exact h5 a ha hc h6
  ·exact⟨h6,fun _=>h7⟩
theorem qt6.same{d:List Int}{l:List ae}{P Q:List Int→Prop}{b:List Int}{fl:Option Bool}{v:Int}(h:qt6 d l P b fl v)(hq:∀a,Cnt l a→(P a↔Q a)):qt6 d l Q b fl v:=
 h.skip (fun a ha=>(hq a ha).1) fun a ha _ hp=> .inl ((hq a ha).2 hp)
theorem jou{k n:Nat}{a b c:List Int}(h:qay k b c)(he:qoe k a c)(hk:k≤n):¬qay n a b:=by
 obtain⟨i,hi,h1,h2⟩:=h;rintro⟨p,hp,h3,h4⟩;have h5:=he i hi;rcases Nat.lt_trichotomy p i with h6|h6|h6
 ·have h7:=h1 p h6;have h8:=he p (by omega);omega
 ·rw[h6]at h4;omega
 ·have h7:=h3 i h6;omega
theorem qhr{c:List Int}{v:Int}{j:Nat}(h:j<c.length):(c++[v]).getD j 0=c.getD j 0:=by
 rw[List.getD_eq_getElem?_getD,List.getD_eq_getElem?_getD,List.getElem?_append_left h]
theorem qxu{c:List Int}{v:Int}:(c++[v]).getD c.length 0=v:=by simp
theorem jlu{c a:List Int}{v:Int}:qoe (c.length+1) a (c++[v])↔qoe c.length a c∧a.getD c.length 0=v:=by
 constructor
 ·intro h;refine⟨fun j hj=> ?_,?_⟩
  ·rw[h j (by omega),qhr hj]
  ·rw[h c.length (by omega),qxu]
 ·rintro⟨h1,h2⟩ j hj;by_cases e:j=c.length
  ·rw[e,qxu];exact h2
  ·rw[qhr (by omega)];exact h1 j (by omega)
theorem q9w{c a:List Int}{v:Int}:qay (c.length+1) a (c++[v])↔qay c.length a c∨(qoe c.length a c∧a.getD c.length 0<v):=by
 constructor
 ·rintro⟨i,hi,h1,h2⟩;by_cases e:i=c.length
  ·subst e;rw[qxu]at h2;exact .inr ⟨fun j hj=>by rw[h1 j hj,qhr hj],h2⟩
  ·refine .inl ⟨i,by omega,fun j hj=> ?_,?_⟩
   ·rw[h1 j hj,qhr (by omega)]
   ·rw[qhr (by omega)]at h2;exact h2
 ·rintro(⟨i,hi,h1,h2⟩|⟨h1,h2⟩)
  ·exact⟨i,by omega,fun j hj=>by rw[h1 j hj,qhr (by omega)],by rw[qhr hi];exact h2⟩
  ·exact⟨c.length,by omega,fun j hj=>by rw[h1 j hj,qhr hj],by rw[qxu];exact h2⟩
theorem jmv{f:Nat→Int}{n:Nat}:∀{k:Nat},(∀j,j<n→0≤f j)→k≤n→xl f k≤xl f n:=by
 induction n with
 |zero=>intro k _ hk;rw[show k=0 by omega];exact Int.le_refl _
 |succ n ih=>
  intro k h hk;by_cases e:k=n+1
  ·rw[e];exact Int.le_refl _
  ·have h1:=ih (k:=k) (fun j hj=>h j (by omega)) (by omega);have h2:=h n (by omega);show xl f k≤xl f n+f n;omega
theorem jx4{l:List ae}{a m:List Int}(h:∀i,i<l.length→a.getD i 0≤m.getD i 0)(t:Nat):za l a t≤za l m t:=
 jki fun i hi=>by
  have:=h i hi;split<;>omega
def Pre(l:List ae)(c:List Int):Prop:=c.length≤l.length∧∀i,i<c.length→0≤c.getD i 0∧c.getD i 0≤(l.getD i ae.z).2.2.1
def spN(l:List ae)(c:List Int):Int:=xl (fun i=>(l.getD i ae.z).2.1*c.getD i 0) c.length
theorem jqx{d:List Int}{l:List ae}{a c:List Int}(h:Good d l)(ha:Cnt l a)(he:qoe c.length a c)(hk:c.length≤l.length):spN l c≤fw l a:=by
 have h1:spN l c=xl (fun i=>(l.getD i ae.z).2.1*a.getD i 0) c.length:=ql3 fun i hi=>by rw[he i hi]
 rw[h1];exact jmv (fun i hi=>Int.mul_nonneg (h.sh i hi).p0 (ha.2 i hi).1) hk
abbrev TA:Type:=(Unit×(List Int)×Int×Unit)×(((List Int)×(List ae)×(Option Bool×(List Int))×Int×Unit)×Unit)
abbrev TO:Type:=(List Int)×(List ae)×(List Int)×(Option Bool)×Int
def j7h(d:List Int)(l:List ae)(c:List Int)(sp:Int)(b:List Int)(fl:Option Bool)(v:Int):TA:=(((),c,sp,()),((d,l,(fl,b),v,()),()))
def jip(d:List Int)(l:List ae)(rec:TA→Option TO)(c:List Int):Prop:=
 ∀b fl v,Pre l c→qt6 d l (fun a=>qay c.length a c) b fl v→∃b' fl' v',rec (j7h d l c (spN l c) b fl v)=some (d,l,b',fl',v')∧qt6 d l (fun a=>qay c.length a c∨qoe c.length a c) b' fl' v'
theorem jr2{d:List Int}{l:List ae}{c:List Int}(v:Int):spN l (c++[v])=spN l c+v*(l.getD c.length ae.z).2.1:=by
 unfold spN;rw[List.length_append];show xl _ c.length+(l.getD c.length ae.z).2.1*(c++[v]).getD c.length 0=_;rw[qxu,Int.mul_comm v];congr 1;exact ql3 fun i hi=>by rw[qhr hi]
theorem j11{d:List Int}{l:List ae}{c:List Int}(h:Good d l)(hp:Pre l c):0≤spN l c∧spN l c≤c.length*20000:=
 q20 fun i hi=>q4u ⟨(h.sh i (by have:=hp.1;omega)).p0,(h.sh i (by have:=hp.1;omega)).p1⟩ ⟨(hp.2 i hi).1,by have:=(hp.2 i hi).2;have:=(h.sh i (by have:=hp.1;omega)).m1;omega⟩
theorem jqb{d:List Int}{l:List ae}(h:Good d l){rec:TA→Option TO}{c:List Int}(hrec:c.length<l.length→∀v,jip d l rec (c++[v])){b:List Int}{fl:Option Bool}{v:Int}(hp:Pre l c)
  (hs:qt6 d l (fun a=>qay c.length a c) b fl v) (hn:fl=none→spN l c<v):∃o b' fl' v',l7 rec c (spN l c) d l b fl v=some o∧(o= .inl (d,l,b',fl',v')∨o= .inr (d,l,b',fl',v'))∧qt6 d l (fun a=>qay c.length a c∨qoe c.length a c) b' fl' v' :=by
 have h1:=h.l1;have h2:=hp.1;have hml:(gu l).length=l.length:=db _ _;have hx:∀j,(c++(gu l).drop c.length).getD j 0=if j<c.length then c.getD j 0 else if j<l.length then(l.getD j ae.z).2.2.1 else 0:=fun j=>by
  rw[List.getD_eq_getElem?_getD,List.getElem?_append];by_cases e:j<c.length
  ·rw[if_pos e,if_pos e,List.getD_eq_getElem?_getD]
  ·rw[if_neg e,if_neg e,List.getElem?_drop,show c.length+(j-c.length)=j by omega];by_cases e2:j<l.length
   ·rw[if_pos e2,←List.getD_eq_getElem?_getD];exact em e2
   ·rw[if_neg e2,List.getElem?_eq_none (by omega)];rfl
 have hxc:Cnt l (c++(gu l).drop c.length):=by
  refine⟨by rw[List.length_append,List.length_drop];omega,fun i hi=> ?_⟩;rw[hx];by_cases e:i<c.length
  ·rw[if_pos e];exact hp.2 i e
  ·rw[if_neg e,if_pos hi];exact⟨(h.sh i hi).m0,Int.le_refl _⟩
 unfold l7 uu;rw[que (by omega),af,q2r (by omega),af,q2o (by omega) (by omega) (by omega),Int.toNat_natCast,Int.toNat_natCast,List.take_of_length_le (by rw[List.length_drop];omega),o4 (by rw[List.length_drop];omega) (by rw[List.length_drop];omega)];obtain⟨r,hr,hr2⟩:=qfx h (hxc.c20 h) (Nat.le_of_eq hxc.1.symm);rw[hr,af];rcases hr2 with⟨rfl,hcv⟩|⟨k,hk,rfl,hsh⟩
 ·rw[xF];by_cases hf:c.length=l.length
  ·rw[bu (by omega),af];have hc:Cnt l c:=⟨hf,fun i hi=>hp.2 i (by omega)⟩;have e:c++(gu l).drop c.length=c:=by rw[List.drop_eq_nil_of_le (by omega),List.append_nil]
   rw[e]at hcv;have hcost:fw l c=spN l c:=by unfold fw spN;rw[hf]
   refine⟨_,c,none,spN l c,rfl, .inr rfl, .inr ⟨rfl,⟨hc,hcv,hcost, .inr fun j _=>rfl⟩,fun a ha hac hq=> ?_⟩⟩;rcases hq with hq|hq
   ·rcases hs with⟨-,-,h5⟩|⟨h3,-,h5⟩
    ·exact absurd hq (h5 a ha hac)
    ·have:=hn h3;have:=(h5 a ha hac hq).1;exact⟨by omega,fun h=>by omega⟩
   ·have e2:fw l a=spN l c:=by rw[←hcost];exact ql3 fun i hi=>by rw[hq i (by omega)]
    refine⟨by omega,fun _=> ?_⟩;rintro⟨i,hi,-,h6⟩;have:=hq i (by omega);omega
  ·have hlt:c.length<l.length:=by omega
   rw[bg (by omega),xI,xI];have hm:=h.sh c.length hlt;have hm0:=hm.m0;have hm1:=hm.m1;rw[xR];have hsp:=j11 h hp;obtain⟨o,ho,hp2⟩:=fy (step:=fun a:Int×TO=>np (R:=LR (Int×TO) TO TO) rec c (spN l c) (c.length:Int) ((l.getD c.length ae.z).2.2.1+1) a.1 a.2.1 a.2.2.1 a.2.2.2.1 a.2.2.2.2.1 a.2.2.2.2.2 (fun a' =>some (.next a')) (fun e=>some (.done e)) (fun r=>some (.ret r)))
    (fun s=>∃(i:Nat) (b' :List Int) (fl' :Option Bool) (v' :Int),s=((i:Int),d,l,b',fl',v')∧(i:Int)≤(l.getD c.length ae.z).2.2.1+1∧qt6 d l (fun a=>qay c.length a c∨(qoe c.length a c∧a.getD c.length 0<(i:Int))) b' fl' v') (fun s=>21-s.1.toNat)
    (fun o=>∃(b' :List Int) (fl' :Option Bool) (v' :Int),o= .inl (d,l,b',fl',v')∧qt6 d l (fun a=>qay c.length a c∨qoe c.length a c) b' fl' v') (0,d,l,b,fl,v)
    ⟨0,b,fl,v,rfl,by omega,hs.same fun a ha=>⟨fun h=> .inl h,fun h=>h.elim id fun h=>absurd h.2 (by have:=(ha.2 c.length hlt).1;omega)⟩⟩ (xZ (by omega)) (by
     rintro s ⟨i,b',fl',v',rfl,hi,hi2⟩;unfold np;dsimp only;by_cases hlt2:(i:Int)<(l.getD c.length ae.z).2.2.1+1
     ·have hb:=q4u ⟨hm.p0,hm.p1⟩ (b:=(i:Int)) (by omega);rw[Int.mul_comm]at hb;have hpre:Pre l (c++[(i:Int)]):=by
       refine⟨by rw[List.length_append];show c.length+1≤_;omega,fun j hj=> ?_⟩;rw[List.length_append]at hj;have hj:j<c.length+1:=hj;by_cases e:j=c.length
       ·rw[e,qxu];omega
       ·rw[qhr (by omega)];exact hp.2 j (by omega)
      obtain⟨b2,fl2,v2,hr3,hr4⟩:=hrec hlt (i:Int) b' fl' v' hpre (by
       rw[List.length_append];exact hi2.same fun a _=>q9w.symm)
      rw[jr2 (d:=d)]at hr3;have hr3:rec (((),(c++[(i:Int)]),(spN l c+(i:Int)*(l.getD c.length ae.z).2.1),()),((d,l,(fl',b'),v',()),()))=_:=hr3;rw[bi hlt2,que (by omega),af,xI,xI,Int.toNat_natCast,xR,xR,xM,hr3,af,xR,am];refine⟨_,rfl,⟨i+1,b2,fl2,v2,rfl,by omega,?_⟩,?_⟩
      ·refine hr4.same fun a _=> ?_
       rw[List.length_append];show qay (c.length+1) a (c++[(i:Int)])∨qoe (c.length+1) a (c++[(i:Int)])↔_;rw[q9w,jlu];constructor
       ·rintro((h|⟨h,h'⟩)|⟨h,h'⟩)
        ·exact .inl h
        ·exact .inr ⟨h,by omega⟩
        ·exact .inr ⟨h,by omega⟩
       ·rintro(h|⟨h,h'⟩)
        ·exact .inl (.inl h)
        ·by_cases e:a.getD c.length 0=(i:Int)
         ·exact .inr ⟨h,e⟩
         ·exact .inl (.inr ⟨h,by omega⟩)
      ·exact xD (by omega)
     ·rw[xN];refine⟨_,rfl,b',fl',v',rfl,hi2.same fun a ha=>⟨fun h=>h.elim .inl fun h=> .inr h.1,fun h=>h.elim .inl fun h=> .inr ⟨h,?_⟩⟩⟩;have:=(ha.2 c.length hlt).2;omega)
   have ho:qfw rec c (spN l c) (c.length:Int) ((l.getD c.length ae.z).2.2.1+1) (0,d,l,b,fl,v)=_:=ho;obtain⟨b',fl',v',rfl,hfin⟩:=hp2;rw[ho,af];exact⟨_,b',fl',v',rfl, .inl rfl,hfin⟩
 ·rw[xE];refine⟨_,b,fl,v,rfl, .inr rfl,hs.skip (fun a _ h=> .inl h) fun a ha hac hq=>hq.elim .inl fun hq=> ?_⟩;have h3:=jx4 (l:=l) (a:=a) (m:=c++(gu l).drop c.length) (fun i hi=>by
   rw[hx];by_cases e:i<c.length
   ·rw[if_pos e,hq i e];exact Int.le_refl _
   ·rw[if_neg e,if_pos hi];exact(ha.2 i hi).2) k
  have h4:=hac k hk;omega
theorem j4a{d:List Int}{l:List ae}(h:Good d l){rec:TA→Option TO}{c:List Int}(hrec:c.length<l.length→∀v,jip d l rec (c++[v])){b:List Int}{fl:Option Bool}{v:Int}(hp:Pre l c)
  (hs:qt6 d l (fun a=>qay c.length a c) b fl v):∃b' fl' v',io rec c (spN l c) d l b fl v=some (d,l,b',fl',v')∧qt6 d l (fun a=>qay c.length a c∨qoe c.length a c) b' fl' v' :=by
 unfold io;have hok:ai (nlC fl (b.length:Int))=(fun x:Option TO=>x)∧nlV fl (b.length:Int)=decide (fl=some false):=by
  rcases hs with⟨h3,h4,-⟩|⟨h3,⟨h4,-,-,k,hk,-⟩,-⟩
  ·rw[h3,h4];exact⟨rfl,rfl⟩
  ·have:=h4.1;have:=hp.1;rw[h3];refine⟨?_,rfl⟩;have hb:¬(b.length:Int)=0:=by omega
   have e:nlC none (b.length:Int)=true:=by show(!decide ((b.length:Int)=0))=true;rw[decide_eq_false hb];rfl
   rw[e];rfl
 rw[hok.1,hok.2];by_cases hfl:fl=some false
 ·obtain⟨o,b',fl',v',e1,e2,e3⟩:=jqb h hrec hp hs (fun h=>by rw[hfl]at h;cases h);rw[decide_eq_true hfl];show∃b' fl' v',bnd (l7 _ c (spN l c) d l b fl v) _=some (d,l,b',fl',v')∧_;rw[e1,af];rcases e2 with rfl|rfl<;>exact⟨b',fl',v',rfl,e3⟩
 ·have hnone:fl=none:=by
   rcases hs with⟨h3,-⟩|⟨h3,-⟩
   ·exact absurd h3 hfl
   ·exact h3
  rw[decide_eq_false hfl];show∃b' fl' v',(bif decide (v≤spN l c)then _ else _)=some (d,l,b',fl',v')∧_;by_cases hv:v≤spN l c
  ·rw[lz hv];refine⟨b,fl,v,rfl,hs.skip (fun a _ h=> .inl h) fun a ha hac hq=>hq.elim .inl fun hq=> .inr ⟨hnone,?_,?_⟩⟩
   ·have:=jqx h ha hq hp.1;omega
   ·rcases hs with⟨h3,-⟩|⟨-,⟨-,-,-,h4⟩,-⟩
    ·exact absurd h3 hfl
    ·exact jou h4 hq hp.1
  ·rw[xF];obtain⟨o,b',fl',v',e1,e2,e3⟩:=jqb h hrec hp hs (fun _=>by omega);rw[e1,af];rcases e2 with rfl|rfl<;>exact⟨b',fl',v',rfl,e3⟩
theorem jqc{d:List Int}{l:List ae}(h:Good d l):∀(m f:Nat) (c:List Int),l.length=c.length+m→m<f→jip d l (qyl (fun rec a=>io rec a.1.2.1 a.1.2.2.1 a.2.1.1 a.2.1.2.1 a.2.1.2.2.1.2 a.2.1.2.2.1.1 a.2.1.2.2.2.1) f) c
 |m,0,c,_,hf=>by omega
 |m,f+1,c,hm,hf=>by
  intro b fl v hp hs;have hrec:c.length<l.length→∀v,jip d l (qyl (fun rec a=>io rec a.1.2.1 a.1.2.2.1 a.2.1.1 a.2.1.2.1 a.2.1.2.2.1.2 a.2.1.2.2.1.1 a.2.1.2.2.2.1) f) (c++[v]):=fun hlt v=>jqc h (m-1) f (c++[v]) (by rw[List.length_append];show _=c.length+1+(m-1);omega) (by omega)
  rw[qjd];exact j4a h hrec hp hs
structure BestOK (d : List Int) (l : List ae) (b : List Int) (v : Int) : Prop where
 cnt : Cnt l b
 cvr : Cvr d l b
 cost : fw l b = v
 le : ∀ a, Cnt l a → Cvr d l a → v ≤ fw l a ∧ (fw l a = v → ¬ qay l.length a b)
theorem jmi{d:List Int}{l:List ae}(h:Good d l)(hc:Cvr d l (gu l)):∃b fl v,qjp [] 0 d l [] (some false) 0=some (d,l,b,fl,v)∧BestOK d l b v:=by
 obtain⟨b,fl,v,h1,h2⟩:=jqc h l.length many [] (by show _=0+_;omega) (cr (by have:=h.l1;omega)) [] (some false) 0 ⟨by show 0≤_;omega,fun i hi=>by cases hi⟩ (.inl ⟨rfl,rfl,fun a _ _ ⟨k,hk,_⟩=>by cases hk⟩);refine⟨b,fl,v,h1,?_⟩;have hm:Cnt l (gu l):=⟨db _ _,fun i hi=>by
  have e:(gu l).getD i 0=(l.getD i ae.z).2.2.1:=em hi;rw[e];exact⟨(h.sh i hi).m0,Int.le_refl _⟩⟩
 rcases h2 with⟨-,-,h3⟩|⟨-,h3,h4⟩
 ·exact absurd (.inr fun j hj=>by cases hj) (h3 _ hm hc)
 ·exact⟨h3.1,h3.2.1,h3.2.2.1,fun a ha hac=>h4 a ha hac (.inr fun j hj=>by cases hj)⟩
end Go.Proofs.YteljgpepodpebaaGreat
