/-
  Migrate: which pair is the first one that is not as a simulation asks; the law MigrateSimulates.
-/
import Derived.Test.YtdhfhpdadbopkaaGreatZ3M3
set_option linter.all false
namespace Go.Proofs.YtdhfhpdadbopkaaGreat
open Go.K Go.M
def jf9(S:Mp)(p:Pr):Mp:=tf .str (rc p.1 p.2.1) true S
def qtp(l:List Pr):Mp:=l.foldl jf9 []
def PM(old new:a7)(l:List Pr):Prop:=∀p∈l,bq old.1 p.1=true∧bq new.1 p.2.1=true
theorem ji1{a b:Int}(l:List Pr):∀{S:Mp} {f:List Int→List Int→Bool},Tab a b S f→(∀p∈l,bq a p.1=true∧bq b p.2.1=true)→Tab a b (l.foldl jf9 S) fun x y=>n8 l x y||f x y:=by
 induction l with
 |nil=>intro S f h _;exact h
 |cons p l ih=>
  intro S f h hp;obtain⟨h1,h2⟩:=hp p List.mem_cons_self;have:=ih (jjm h h1 h2) fun q hq=>hp q (List.mem_cons_of_mem _ hq)
  intro x y hx hy;rw[List.foldl_cons];refine(this x y hx hy).trans ?_;show(n8 l x y||((decide (p.1=x)&&decide (p.2.1=y))||f x y))=(((decide (p.1=x)&&decide (p.2.1=y))||n8 l x y)||f x y);cases n8 l x y<;>cases(decide (p.1=x)&&decide (p.2.1=y))<;>rfl
theorem jer{old new:a7}{l:List Pr}(h:PM old new l):Tab old.1 new.1 (qtp l) (n8 l):=fun x y hx hy=>by
 have:=ji1 l (jjl old.1 new.1) h x y hx hy;refine this.trans ?_;show(n8 l x y||false)=n8 l x y;cases n8 l x y<;>rfl
def qpn(old new:a7)(l:List Pr)(p:Pr):Bool:= !gb old new (n8 l) p.1 p.2.1
section
variable {old new : a7} (ho : Small old) (hn : Small new) (vo : bu old = true) (vn : bu new = true)
include ho hn vo vn
theorem q8v{l:List Pr}(hl:l.length≤100000)(hp:PM old new l):rb old new l=some (qre (qpn old new l) l):=by
 obtain⟨p1,p2,_⟩:=ba vo ho;obtain⟨q1,q2,_⟩:=ba vn hn;have hL:qc2 l l (l.length:Int) old.1 old.2.1 old.2.2.1 old.2.2.2.1 new.1 new.2.1 new.2.2.1 new.2.2.2.1 (0,[])=some (.inl (qtp l)):=by
  refine f9 (fun i=>((i:Int),qtp (l.take i))) l.length (cr (by omega)) _ (fun i hi=> ?_) ?_ _ rfl
  ·obtain⟨h1,h2⟩:=hp _ (au ab.z hi);have l1:=b7 h1;have l2:=b7 h2;have e:qtp (l.take (i+1))=tf .str (rc (l.getD i ab.z).1 (l.getD i ab.z).2.1) true (qtp (l.take i)):=by
    rw[a8 l i ab.z hi];unfold qtp;rw[List.foldl_append];rfl
   rw[e];simp(disch:=omega)only[nm,qzo (l.getD i ab.z).1 (l.getD i ab.z).2.1 (by omega) (by omega),ai,rs]
  ·rw[List.take_length];simp(disch:=omega)only[nm,rs]
 have hS:=jer hp;have hF:k8 l old new (l.length:Int) (0,qtp l)=some (match nj (qpn old new l) l with|some i=> .inr ((i:Int),qtp l)|none=> .inl (qtp l)):=by
  refine qpx l ab.z _ (qtp l) (by omega) (fun i hi=> ?_) ?_
  ·obtain⟨h1,h2⟩:=hp _ (au ab.z hi);have h3:=jhy ho hn vo vn hS h1 h2;simp(disch:=omega)only[db,p8,h3,rs];unfold qpn;rw[ai];cases gb old new (n8 l) (l.getD i ab.z).1 (l.getD i ab.z).2.1<;>rfl
  ·simp(disch:=omega)only[db,rs]
 unfold rb gl qre;rw[hL];simp only[ah,gf];rw[hF];cases nj (qpn old new l) l<;>rfl
end
theorem q0y{n:a7}(h:Small n)(hv:bu n=true)(m:List Int)(hm:m.length≤1000000):qk n m=some (bq n.1 m):=by
 unfold qk;rw[qpm h m hm,hv];cases bq n.1 m<;>rfl
def pmB(old new:a7)(p:Pr):Bool:=bq old.1 p.1&&bq new.1 p.2.1
theorem ji9{old new:a7}(ho:Small old)(hn:Small new)(vo:bu old=true)(vn:bu new=true){l:List Pr}(hl:l.length≤1000000)(hp:∀p∈l,p.1.length≤1000000∧p.2.1.length≤1000000):
  qbc old new l=some (!l.any fun p=> !pmB old new p):=by
 have hL:m9 l old new (l.length:Int) 0=some (qq8 (fun i=>(i:Int)) (nj (fun p=> !pmB old new p) l)):=by
  refine l9 l ab.z (fun p=> !pmB old new p) (fun i=>(i:Int)) (by omega) (fun i hi=> ?_) ?_
  ·obtain⟨h1,h2⟩:=hp _ (au ab.z hi);simp(disch:=omega)only[dx,qch,q0y ho vo (l.getD i ab.z).1 h1,q0y hn vn (l.getD i ab.z).2.1 h2,rs];unfold pmB;rw[ai];cases bq old.1 (l.getD i ab.z).1<;>cases bq new.1 (l.getD i ab.z).2.1<;>rfl
  ·simp(disch:=omega)only[dx,rs]
 unfold qbc gi i6;rw[hL,ah,yc,ah,ah,qdb]
theorem jd4{p q:Nat→Bool}(hpq:∀t,p t=true→q t=true):∀l:List Nat,(l.filter p).length≤(l.filter q).length∧((l.filter q).length≤(l.filter p).length→∀t∈l,q t=true→p t=true)
 |[]=>⟨Nat.le_refl _,fun _ t ht=>by cases ht⟩
 |a::l=>by
  obtain⟨h1,h2⟩:=jd4 hpq l;have ha:=hpq a;rw[List.filter_cons,List.filter_cons];cases hp:p a<;>cases hq:q a
  ·simp only[Bool.false_eq_true,if_false];refine⟨h1,fun h t ht hqt=> ?_⟩;rcases List.mem_cons.1 ht with rfl|ht
   ·rw[hq]at hqt;cases hqt
   ·exact h2 h t ht hqt
  ·simp only[Bool.false_eq_true,if_false,if_true,List.length_cons];exact⟨by omega,fun h=>by omega⟩
  ·rw[ha hp]at hq;cases hq
  ·simp only[if_true,List.length_cons];refine⟨by omega,fun h t ht hqt=> ?_⟩;rcases List.mem_cons.1 ht with rfl|ht
   ·exact hp
   ·exact h2 (by omega) t ht hqt
theorem jcv{n:a7}{m:List Int}{t:Nat}(h:tj n m t=true):wn (n.2.1.getD t af.z) m=true:=by
 unfold tj bm at h;cases hc:wn (n.2.1.getD t af.z) m with
 |true=>rfl
 |false=>rw[hc]at h;simp at h
theorem q6p(new:a7)(f:List Int→List Int→Bool)(lab:ByteArray)(x y:List Int):qt2 new f lab x y=(List.range new.2.1.length).any fun u=>eqS (mu new u) lab&&(tj new y u&&f x (bm new y u).2):=by
 unfold qt2 aw okT;rw[List.any_map,List.any_filter];congr 1;funext u;show(tj new y u&&(eqS (mu new ((u:Int)).toNat) lab&&f x (bm new y u).2))=_;rw[Int.toNat_natCast];cases tj new y u<;>cases eqS (mu new u) lab<;>rfl
def q4z(old new:a7)(f:List Int→List Int→Bool)(x y:List Int)(t:Nat):Bool:= !wn (old.2.1.getD t af.z) x||(tj old x t&&qh3 old new f y (uh old x t))
theorem qrc(old new:a7)(f:List Int→List Int→Bool)(x y:List Int):gb old new f x y=((!decide (x=qkj old)||decide (y=qkj new))&&(List.range old.2.1.length).all (q4z old new f x y)):=by
 unfold gb;rw[Bool.and_assoc];congr 1;obtain⟨h1,h2⟩:=jd4 (p:=tj old x) (q:=fun t=>wn (old.2.1.getD t af.z) x) (fun t=>jcv) (List.range old.2.1.length);have l1:(aw old x).length=((List.range old.2.1.length).filter (tj old x)).length:=List.length_map _;have l2:(enL old x).length=((List.range old.2.1.length).filter fun t=>wn (old.2.1.getD t af.z) x).length:=List.length_map _;rw[Bool.eq_iff_iff,Bool.and_eq_true,Bool.not_eq_true',decide_eq_false_iff_not,List.all_eq_true,List.all_eq_true,l1,l2];constructor
 ·rintro⟨g1,g2⟩ t ht;unfold q4z;cases hc:wn (old.2.1.getD t af.z) x with
  |false=>rfl
  |true=>
   have ho:=h2 (by omega) t ht hc;rw[ho,g2 (uh old x t) (List.mem_map.2 ⟨t,List.mem_filter.2 ⟨ht,ho⟩,rfl⟩)];rfl
 ·intro g;have key:∀t∈List.range old.2.1.length,wn (old.2.1.getD t af.z) x=true→tj old x t=true∧qh3 old new f y (uh old x t)=true:=fun t ht hc=>by
   have:=g t ht;unfold q4z at this;rw[hc]at this;simpa using this
  constructor
  ·have:(List.range old.2.1.length).filter (tj old x)=(List.range old.2.1.length).filter fun t=>wn (old.2.1.getD t af.z) x:=by
    refine List.filter_congr fun t ht=> ?_
    rw[Bool.eq_iff_iff];exact⟨jcv,fun hc=>(key t ht hc).1⟩
   rw[this];omega
  ·intro s hs;obtain⟨t,ht,rfl⟩:=List.mem_map.1 hs;obtain⟨h1,h2⟩:=List.mem_filter.1 ht;exact(key t h1 (jcv h2)).2
section
variable {old new : a7} (ho : Small old) (hn : Small new) (vo : bu old = true) (vn : bu new = true) {l : List Pr} (hl : l.length ≤ 100000) (hp : PM old new l)
include ho hn vo vn hl hp
theorem jnf:∀p∈l,p.1.length≤1000∧p.2.1.length≤1000:=fun p h=>by
 obtain⟨p1,p2,_⟩:=ba vo ho;obtain⟨q1,q2,_⟩:=ba vn hn;obtain⟨h1,h2⟩:=hp p h;have l1:=b7 h1;have l2:=b7 h2;omega
theorem q9g(lab:ByteArray)(x:List Int){y:List Int}(hy:bq new.1 y=true):sj new l lab x y=some ((eqS lab ⟨#[]⟩&&n8 l x y)||qt2 new (n8 l) lab x y):=by
 have hlen:=jnf ho hn vo vn hl hp;have ht:=hn.trans;have hI:=fun z=>jgx l (by omega) hlen x z
 have hT:tu l lab x y new.1 new.2.1 new.2.2.1 new.2.2.2.1=some (.inr (qt2 new (n8 l) lab x y)):=by
  have hL:qhe l lab x y new.1 new.2.1 new.2.2.1 new.2.2.2.1 0=some (bif (List.range new.2.1.length).all (fun u=> !(eqS (mu new u) lab&&(tj new y u&&n8 l x (bm new y u).2)))then .inl ()else .inr true):=by
   have hst:∀u:Nat,u<new.2.1.length→nq l lab x y new.1 new.2.1 new.2.2.1 new.2.2.2.1 (R:=LR Int Unit Bool) (u:Int) (fun a' =>some (.next a')) (fun e=>some (.done e)) (fun r=>some (.ret r))=some (bif !(eqS (mu new u) lab&&(tj new y u&&n8 l x (bm new y u).2))then .next ((u+1:Nat):Int)else .ret true):=fun u hu=>by
    have hF:gg (new.1,new.2.1,new.2.2.1,new.2.2.2.1,()) y (u:Int)=some (bm new y u):=qey hn vn hy hu;have e1:mu new u=(new.2.1.getD u af.z).1:=rfl;have e2:tj new y u=decide ((bm new y u).1=0):=rfl;unfold nq;rw[e1,e2];simp(disch:=omega)only[lb,hF,hI,ai,rs];cases eqS (new.2.1.getD u af.z).1 lab<;>cases decide ((bm new y u).1=0)<;>cases n8 l x (bm new y u).2<;>rfl
   exact ou (fun i:Nat=>(i:Int)) new.2.1.length (cr (by omega)) (fun u=> !(eqS (mu new u) lab&&(tj new y u&&n8 l x (bm new y u).2))) () true (fun i hi hq=>(hst i hi).trans (by rw[hq];rfl)) (fun i hi hq=>(hst i hi).trans (by rw[hq];rfl)) (by simp(disch:=omega)only[nq,rs])
  unfold tu zf;rw[hL,q6p,List.all_eq_not_any_not];simp only[Bool.not_not];cases(List.range new.2.1.length).any fun u=>eqS (mu new u) lab&&(tj new y u&&n8 l x (bm new y u).2)<;>rfl
 unfold sj;rw[hT,hI];simp only[ah,lb];cases eqS lab ⟨#[]⟩<;>cases n8 l x y<;>rfl
theorem q9b{p:Pr}(h1:bq old.1 p.1=true)(h2:bq new.1 p.2.1=true):sg old new l p=some (gb old new (n8 l) p.1 p.2.1):=by
 obtain⟨p1,p2,p3,p4,p5,_⟩:=ba vo ho;obtain⟨q1,q2,q3,q4,q5,_⟩:=ba vn hn;have l1:=b7 h1;have l2:=b7 h2;have ht:=ho.trans;have hT:qbl l old.1 old.2.1 old.2.2.1 old.2.2.2.1 new.1 new.2.1 new.2.2.1 new.2.2.2.1 p.1 p.2.1=some (.inr ((List.range old.2.1.length).all (q4z old new (n8 l) p.1 p.2.1))):=by
  have hL:qpd l old.1 old.2.1 old.2.2.1 old.2.2.2.1 new.1 new.2.1 new.2.2.1 new.2.2.2.1 p.1 p.2.1 0=some (bif (List.range old.2.1.length).all (q4z old new (n8 l) p.1 p.2.1)then .inl ()else .inr false):=by
   have hst:∀t:Nat,t<old.2.1.length→si l old.1 old.2.1 old.2.2.1 old.2.2.2.1 new.1 new.2.1 new.2.2.1 new.2.2.2.1 p.1 p.2.1 (R:=LR Int Unit Bool) (t:Int) (fun a' =>some (.next a')) (fun e=>some (.done e)) (fun r=>some (.ret r))=some (bif q4z old new (n8 l) p.1 p.2.1 t then .next ((t+1:Nat):Int)else .ret false):=fun t hti=>by
    have hC:qdr (old.1,old.2.1,old.2.2.1,old.2.2.2.1,()) p.1 (t:Int)=some (wn (old.2.1.getD t af.z) p.1):=q54 hti (jd5 ho vo h1 hti);have hF:gg (old.1,old.2.1,old.2.2.1,old.2.2.2.1,()) p.1 (t:Int)=some (bm old p.1 t):=qey ho vo h1 hti;have hA:sj (new.1,new.2.1,new.2.2.1,new.2.2.2.1,()) l (old.2.1.getD t af.z).1 (bm old p.1 t).2 p.2.1=some (qh3 old new (n8 l) p.2.1 (uh old p.1 t)):=q9g ho hn vo vn hl hp _ _ h2;have e2:tj old p.1 t=decide ((bm old p.1 t).1=0):=rfl;unfold si q4z;rw[e2];simp(disch:=omega)only[hC,hF,hA,ai,rs];cases wn (old.2.1.getD t af.z) p.1<;>cases decide ((bm old p.1 t).1=0)<;>cases qh3 old new (n8 l) p.2.1 (uh old p.1 t)<;>rfl
   exact ou (fun i:Nat=>(i:Int)) old.2.1.length (cr (by omega)) _ () false (fun i hi hq=>(hst i hi).trans (by rw[hq];rfl)) (fun i hi hq=>(hst i hi).trans (by rw[hq];rfl)) (by simp(disch:=omega)only[si,rs])
  unfold qbl qex;rw[hL];cases(List.range old.2.1.length).all (q4z old new (n8 l) p.1 p.2.1)<;>rfl
 have f1:sk old p.1=some (decide (p.1=qkj old)):=by
  unfold sk;rw[(qu8 ho vo p5).2,ah,wz _ _ (by omega)];rfl
 have f2:sk new p.2.1=some (decide (p.2.1=qkj new)):=by
  unfold sk;rw[(qu8 hn vn q5).2,ah,wz _ _ (by omega)];rfl
 unfold sg;rw[f1,f2,hT,qrc];simp only[ah];cases decide (p.1=qkj old)<;>cases decide (p.2.1=qkj new)<;>rfl
theorem jg1:qf1 old new l=some (qre (qpn old new l) l):=by
 have hL:qpf l old.1 old.2.1 old.2.2.1 old.2.2.2.1 new.1 new.2.1 new.2.2.1 new.2.2.2.1 0=some (qq8 (fun i=>(i:Int)) (nj (qpn old new l) l)):=by
  refine l9 l ab.z (qpn old new l) (fun i=>(i:Int)) (by omega) (fun i hi=> ?_) ?_
  ·obtain⟨h1,h2⟩:=hp _ (au ab.z hi);have hR:sg (old.1,old.2.1,old.2.2.1,old.2.2.2.1,()) (new.1,new.2.1,new.2.2.1,new.2.2.2.1,()) l (l.getD i ab.z)=_:=q9b ho hn vo vn hl hp h1 h2;simp(disch:=omega)only[ze,hR,rs];unfold qpn;rw[ai];cases gb old new (n8 l) (l.getD i ab.z).1 (l.getD i ab.z).2.1<;>rfl
  ·simp(disch:=omega)only[ze,rs]
 unfold qf1;rw[hL,ah,yc]
end
theorem q9a(old new:a7){l:List Pr}(hl:l.length≤1000000)(hp:∀p∈l,p.1.length≤1000000∧p.2.1.length≤1000000):zb old new l=some (!l.any fun p=> !pmB old new p):=by
 have hL:qhb l old.1 old.2.1 old.2.2.1 old.2.2.2.1 new.1 new.2.1 new.2.2.1 new.2.2.2.1 0=some (bif l.any (fun p=> !pmB old new p)then .inr false else .inl ()):=by
  refine kc l ab.z (fun p=> !pmB old new p) false (by omega) (fun i hi=> ?_) ?_
  ·obtain⟨h1,h2⟩:=hp _ (au ab.z hi);have a1:ie (old.1,old.2.1,old.2.2.1,old.2.2.2.1,()) (l.getD i ab.z).1=_:=qu old _ h1;have a2:ie (new.1,new.2.1,new.2.2.1,new.2.2.2.1,()) (l.getD i ab.z).2.1=_:=qu new _ h2;simp(disch:=omega)only[ri,a1,a2,rs];unfold pmB;rw[ai];cases bq old.1 (l.getD i ab.z).1<;>cases bq new.1 (l.getD i ab.z).2.1<;>rfl
  ·simp(disch:=omega)only[ri,rs]
 unfold zb;rw[hL];cases l.any fun p=> !pmB old new p<;>rfl
theorem jgz(l:List Pr)(hl:l.length≤100000):qfy l=some l:=by
 have hL:qpb l (0,[])=some (.inl l):=by
  refine f9 (fun i=>((i:Int),l.take i)) l.length (cr (by omega)) _ (fun i hi=> ?_) ?_ _ rfl
  ·have e:(l.take i).length=i:=by rw[List.length_take];omega
   rw[a8 l i ab.z hi];simp(disch:=omega)only[zc,e,ai,rs]
  ·rw[List.take_length];simp(disch:=omega)only[zc,rs]
 unfold qfy;rw[hL];rfl
end Go.Proofs.YtdhfhpdadbopkaaGreat
