/-
  Migrate: which pair is the first one that is not as a simulation asks; the law MigrateSimulates.
-/
import Derived.Test.YtdhfhpdadbopkaaZ7M3
set_option linter.all false
namespace Go.Proofs.Ytdhfhpdadbopkaa
open Go.K Go.M
def jb5(S:Mp)(p:Pr):Mp:=tj .str (rh p.1 p.2.1) true S
def qrk(l:List Pr):Mp:=l.foldl jb5 []
def PM(old new:az)(l:List Pr):Prop:=∀p∈l,bu old.1 p.1=true∧bu new.1 p.2.1=true
theorem jez{a b:Int}(l:List Pr):∀{S:Mp} {f:List Int→List Int→Bool},Tab a b S f→(∀p∈l,bu a p.1=true∧bu b p.2.1=true)→Tab a b (l.foldl jb5 S) fun x y=>inB l x y||f x y:=by
 induction l with
 |nil=>intro S f h _;exact h
 |cons p l ih=>
  intro S f h hp;obtain⟨h1,h2⟩:=hp p List.mem_cons_self;have:=ih (jfk h h1 h2) fun q hq=>hp q (List.mem_cons_of_mem _ hq)
  intro x y hx hy;rw[List.foldl_cons];refine(this x y hx hy).trans ?_;show(inB l x y||((decide (p.1=x)&&decide (p.2.1=y))||f x y))=(((decide (p.1=x)&&decide (p.2.1=y))||inB l x y)||f x y);cases inB l x y<;>cases(decide (p.1=x)&&decide (p.2.1=y))<;>rfl
theorem jan{old new:az}{l:List Pr}(h:PM old new l):Tab old.1 new.1 (qrk l) (inB l):=fun x y hx hy=>by
 have:=jez l (jfj old.1 new.1) h x y hx hy;refine this.trans ?_;show(inB l x y||false)=inB l x y;cases inB l x y<;>rfl
def q5r(old new:az)(l:List Pr)(p:Pr):Bool:= !m6 old new (inB l) p.1 p.2.1
section
variable {old new : az} (ho : Small old) (hn : Small new) (vo : bv old = true) (vn : bv new = true)
include ho hn vo vn
theorem q40{l:List Pr}(hl:l.length≤100000)(hp:PM old new l):rg old new l=some (qpt (q5r old new l) l):=by
 obtain⟨p1,p2,_⟩:=bi vo ho;obtain⟨q1,q2,_⟩:=bi vn hn;have hL:qcp l l (l.length:Int) old.1 old.2.1 old.2.2.1 old.2.2.2.1 new.1 new.2.1 new.2.2.1 new.2.2.2.1 (0,[])=some (.inl (qrk l)):=by
  refine nt (fun i=>((i:Int),qrk (l.take i))) l.length (dl (by omega)) _ (fun i hi=> ?_) ?_ _ rfl
  ·obtain⟨h1,h2⟩:=hp _ (aw ab.z hi);have l1:=c0 h1;have l2:=c0 h2;have e:qrk (l.take (i+1))=tj .str (rh (l.getD i ab.z).1 (l.getD i ab.z).2.1) true (qrk (l.take i)):=by
    rw[bn l i ab.z hi];unfold qrk;rw[List.foldl_append];rfl
   rw[e];simp(disch:=omega)only[nv,qwl (l.getD i ab.z).1 (l.getD i ab.z).2.1 (by omega) (by omega),aj,rs]
  ·rw[List.take_length];simp(disch:=omega)only[nv,rs]
 have hS:=jan hp;have hF:lj l old new (l.length:Int) (0,qrk l)=some (match kz (q5r old new l) l with|some i=> .inr ((i:Int),qrk l)|none=> .inl (qrk l)):=by
  refine qog l ab.z _ (qrk l) (by omega) (fun i hi=> ?_) ?_
  ·obtain⟨h1,h2⟩:=hp _ (aw ab.z hi);have h3:=jdt ho hn vo vn hS h1 h2;simp(disch:=omega)only[da,px,h3,rs];unfold q5r;rw[aj];cases m6 old new (inB l) (l.getD i ab.z).1 (l.getD i ab.z).2.1<;>rfl
  ·simp(disch:=omega)only[da,rs]
 unfold rg gu qpt;rw[hL];simp only[ah,lq];rw[hF];cases kz (q5r old new l) l<;>rfl
end
theorem qxv{n:az}(h:Small n)(hv:bv n=true)(m:List Int)(hm:m.length≤1000000):qi n m=some (bu n.1 m):=by
 unfold qi;rw[qn5 h m hm,hv];cases bu n.1 m<;>rfl
def pmB(old new:az)(p:Pr):Bool:=bu old.1 p.1&&bu new.1 p.2.1
theorem je7{old new:az}(ho:Small old)(hn:Small new)(vo:bv old=true)(vn:bv new=true){l:List Pr}(hl:l.length≤1000000)(hp:∀p∈l,p.1.length≤1000000∧p.2.1.length≤1000000):
  qav old new l=some (!l.any fun p=> !pmB old new p):=by
 have hL:ni l old new (l.length:Int) 0=some (qmc (fun i=>(i:Int)) (kz (fun p=> !pmB old new p) l)):=by
  refine jl l ab.z (fun p=> !pmB old new p) (fun i=>(i:Int)) (by omega) (fun i hi=> ?_) ?_
  ·obtain⟨h1,h2⟩:=hp _ (aw ab.z hi);simp(disch:=omega)only[dv,qb4,qxv ho vo (l.getD i ab.z).1 h1,qxv hn vn (l.getD i ab.z).2.1 h2,rs];unfold pmB;rw[aj];cases bu old.1 (l.getD i ab.z).1<;>cases bu new.1 (l.getD i ab.z).2.1<;>rfl
  ·simp(disch:=omega)only[dv,rs]
 unfold qav gq i7;rw[hL,ah,vm,ah,ah,qar]
theorem q91{p q:Nat→Bool}(hpq:∀t,p t=true→q t=true):∀l:List Nat,(l.filter p).length≤(l.filter q).length∧((l.filter q).length≤(l.filter p).length→∀t∈l,q t=true→p t=true)
 |[]=>⟨Nat.le_refl _,fun _ t ht=>by cases ht⟩
 |a::l=>by
  obtain⟨h1,h2⟩:=q91 hpq l;have ha:=hpq a;rw[List.filter_cons,List.filter_cons];cases hp:p a<;>cases hq:q a
  ·simp only[Bool.false_eq_true,if_false];refine⟨h1,fun h t ht hqt=> ?_⟩;rcases List.mem_cons.1 ht with rfl|ht
   ·rw[hq]at hqt;cases hqt
   ·exact h2 h t ht hqt
  ·simp only[Bool.false_eq_true,if_false,if_true,List.length_cons];exact⟨by omega,fun h=>by omega⟩
  ·rw[ha hp]at hq;cases hq
  ·simp only[if_true,List.length_cons];refine⟨by omega,fun h t ht hqt=> ?_⟩;rcases List.mem_cons.1 ht with rfl|ht
   ·exact hp
   ·exact h2 (by omega) t ht hqt
theorem q8p{n:az}{m:List Int}{t:Nat}(h:xc n m t=true):xj (n.2.1.getD t af.z) m=true:=by
 unfold xc bj at h;cases hc:xj (n.2.1.getD t af.z) m with
 |true=>rfl
 |false=>rw[hc]at h;simp at h
theorem q9n(new:az)(f:List Int→List Int→Bool)(lab:ByteArray)(x y:List Int):qwv new f lab x y=(List.range new.2.1.length).any fun u=>eqS (ns new u) lab&&(xc new y u&&f x (bj new y u).2):=by
 unfold qwv ar okT;rw[List.any_map,List.any_filter];congr 1;funext u;show(xc new y u&&(eqS (ns new ((u:Int)).toNat) lab&&f x (bj new y u).2))=_;rw[Int.toNat_natCast];cases xc new y u<;>cases eqS (ns new u) lab<;>rfl
def jep(old new:az)(f:List Int→List Int→Bool)(x y:List Int)(t:Nat):Bool:= !xj (old.2.1.getD t af.z) x||(xc old x t&&qjr old new f y (xh old x t))
theorem qxe(old new:az)(f:List Int→List Int→Bool)(x y:List Int):m6 old new f x y=((!decide (x=qpn old)||decide (y=qpn new))&&(List.range old.2.1.length).all (jep old new f x y)):=by
 unfold m6;rw[Bool.and_assoc];congr 1;obtain⟨h1,h2⟩:=q91 (p:=xc old x) (q:=fun t=>xj (old.2.1.getD t af.z) x) (fun t=>q8p) (List.range old.2.1.length);have l1:(ar old x).length=((List.range old.2.1.length).filter (xc old x)).length:=List.length_map _;have l2:(enL old x).length=((List.range old.2.1.length).filter fun t=>xj (old.2.1.getD t af.z) x).length:=List.length_map _;rw[Bool.eq_iff_iff,Bool.and_eq_true,Bool.not_eq_true',decide_eq_false_iff_not,List.all_eq_true,List.all_eq_true,l1,l2];constructor
 ·rintro⟨g1,g2⟩ t ht;unfold jep;cases hc:xj (old.2.1.getD t af.z) x with
  |false=>rfl
  |true=>
   have ho:=h2 (by omega) t ht hc;rw[ho,g2 (xh old x t) (List.mem_map.2 ⟨t,List.mem_filter.2 ⟨ht,ho⟩,rfl⟩)];rfl
 ·intro g;have key:∀t∈List.range old.2.1.length,xj (old.2.1.getD t af.z) x=true→xc old x t=true∧qjr old new f y (xh old x t)=true:=fun t ht hc=>by
   have:=g t ht;unfold jep at this;rw[hc]at this;simpa using this
  constructor
  ·have:(List.range old.2.1.length).filter (xc old x)=(List.range old.2.1.length).filter fun t=>xj (old.2.1.getD t af.z) x:=by
    refine List.filter_congr fun t ht=> ?_
    rw[Bool.eq_iff_iff];exact⟨q8p,fun hc=>(key t ht hc).1⟩
   rw[this];omega
  ·intro s hs;obtain⟨t,ht,rfl⟩:=List.mem_map.1 hs;obtain⟨h1,h2⟩:=List.mem_filter.1 ht;exact(key t h1 (q8p h2)).2
end Go.Proofs.Ytdhfhpdadbopkaa
