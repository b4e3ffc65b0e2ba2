/-
  Migrate: which pair is the first one that is not as a simulation asks; the law MigrateSimulates.
-/
import Derived.Test.YtdhfhpdadbopkaaZ3M3
set_option linter.all false
namespace Go.Proofs.Ytdhfhpdadbopkaa
open Go.K Go.M
def jmc(S:Mp)(p:Pr):Mp:=qef .str (qhr p.1 p.2.1) true S
def qzd(l:List Pr):Mp:=l.foldl jmc []
def PM(old new:a8)(l:List Pr):Prop:=∀p∈l,c7 old.1 p.1=true∧c7 new.1 p.2.1=true
theorem jbw{a b:Int}(l:List Pr):∀{S:Mp} {f:List Int→List Int→Bool},Tab a b S f→(∀p∈l,c7 a p.1=true∧c7 b p.2.1=true)→Tab a b (l.foldl jmc S) fun x y=>inB l x y||f x y:=by
 induction l with
 |nil=>intro S f h _;exact h
 |cons p l ih=>
  intro S f h hp;obtain⟨h1,h2⟩:=hp p List.mem_cons_self;have:=ih (jcj h h1 h2) fun q hq=>hp q (List.mem_cons_of_mem _ hq)
  intro x y hx hy;rw[List.foldl_cons];refine(this x y hx hy).trans ?_;show(inB l x y||((decide (p.1=x)&&decide (p.2.1=y))||f x y))=(((decide (p.1=x)&&decide (p.2.1=y))||inB l x y)||f x y);cases inB l x y<;>cases(decide (p.1=x)&&decide (p.2.1=y))<;>rfl
theorem jdy{old new:a8}{l:List Pr}(h:PM old new l):Tab old.1 new.1 (qzd l) (inB l):=fun x y hx hy=>by
 have:=jbw l (jci old.1 new.1) h x y hx hy;refine this.trans ?_;show(inB l x y||false)=inB l x y;cases inB l x y<;>rfl
def q21(old new:a8)(l:List Pr)(p:Pr):Bool:= !qey old new (inB l) p.1 p.2.1
section
variable {old new : a8} (ho : Small old) (hn : Small new) (vo : bv old = true) (vn : bv new = true)
include ho hn vo vn
theorem q2h{l:List Pr}(hl:l.length≤100000)(hp:PM old new l):p8 old new l=some (qx6 (q21 old new l) l):=by
 obtain⟨p1,p2,_⟩:=cf vo ho;obtain⟨q1,q2,_⟩:=cf vn hn;have hL:qbo l l (l.length:Int) old.1 old.2.1 old.2.2.1 old.2.2.2.1 new.1 new.2.1 new.2.2.1 new.2.2.2.1 (0,[])=some (.inl (qzd l)):=by
  refine wa (fun i=>((i:Int),qzd (l.take i))) l.length (h8 (by omega)) _ (fun i hi=> ?_) ?_ _ rfl
  ·obtain⟨h1,h2⟩:=hp _ (ba ab.z hi);have l1:=jh h1;have l2:=jh h2;have e:qzd (l.take (i+1))=qef .str (qhr (l.getD i ab.z).1 (l.getD i ab.z).2.1) true (qzd (l.take i)):=by
    rw[iv l i ab.z hi];unfold qzd;rw[List.foldl_append];rfl
   rw[e];simp(disch:=omega)only[l8,q7h (l.getD i ab.z).1 (l.getD i ab.z).2.1 (by omega) (by omega),am,rs]
  ·rw[List.take_length];simp(disch:=omega)only[l8,rs]
 have hS:=jdy hp;have hF:jv l old new (l.length:Int) (0,qzd l)=some (match og (q21 old new l) l with|some i=> .inr ((i:Int),qzd l)|none=> .inl (qzd l)):=by
  refine qv4 l ab.z _ (qzd l) (by omega) (fun i hi=> ?_) ?_
  ·obtain⟨h1,h2⟩:=hp _ (ba ab.z hi);have h3:=jas ho hn vo vn hS h1 h2;simp(disch:=omega)only[ci,om,h3,rs];unfold q21;rw[am];cases qey old new (inB l) (l.getD i ab.z).1 (l.getD i ab.z).2.1<;>rfl
  ·simp(disch:=omega)only[ci,rs]
 unfold p8 fl qx6;rw[hL];simp only[al,qi7];rw[hF];cases og (q21 old new l) l<;>rfl
end
theorem qv5{n:a8}(h:Small n)(hv:bv n=true)(m:List Int)(hm:m.length≤1000000):o5 n m=some (c7 n.1 m):=by
 unfold o5;rw[quz h m hm,hv];cases c7 n.1 m<;>rfl
def pmB(old new:a8)(p:Pr):Bool:=c7 old.1 p.1&&c7 new.1 p.2.1
theorem jb4{old new:a8}(ho:Small old)(hn:Small new)(vo:bv old=true)(vn:bv new=true){l:List Pr}(hl:l.length≤1000000)(hp:∀p∈l,p.1.length≤1000000∧p.2.1.length≤1000000):
  zi old new l=some (!l.any fun p=> !pmB old new p):=by
 have hL:lw l old new (l.length:Int) 0=some (qn6 (fun i=>(i:Int)) (og (fun p=> !pmB old new p) l)):=by
  refine k7 l ab.z (fun p=> !pmB old new p) (fun i=>(i:Int)) (by omega) (fun i hi=> ?_) ?_
  ·obtain⟨h1,h2⟩:=hp _ (ba ab.z hi);simp(disch:=omega)only[c0,qa0,qv5 ho vo (l.getD i ab.z).1 h1,qv5 hn vn (l.getD i ab.z).2.1 h2,rs];unfold pmB;rw[am];cases c7 old.1 (l.getD i ab.z).1<;>cases c7 new.1 (l.getD i ab.z).2.1<;>rfl
  ·simp(disch:=omega)only[c0,rs]
 unfold zi fk gh;rw[hL,al,t6,al,al,tz]
theorem q61{p q:Nat→Bool}(hpq:∀t,p t=true→q t=true):∀l:List Nat,(l.filter p).length≤(l.filter q).length∧((l.filter q).length≤(l.filter p).length→∀t∈l,q t=true→p t=true)
 |[]=>⟨Nat.le_refl _,fun _ t ht=>by cases ht⟩
 |a::l=>by
  obtain⟨h1,h2⟩:=q61 hpq l;have ha:=hpq a;rw[List.filter_cons,List.filter_cons];cases hp:p a<;>cases hq:q a
  ·simp only[Bool.false_eq_true,if_false];refine⟨h1,fun h t ht hqt=> ?_⟩;rcases List.mem_cons.1 ht with rfl|ht
   ·rw[hq]at hqt;cases hqt
   ·exact h2 h t ht hqt
  ·simp only[Bool.false_eq_true,if_false,if_true,List.length_cons];exact⟨by omega,fun h=>by omega⟩
  ·rw[ha hp]at hq;cases hq
  ·simp only[if_true,List.length_cons];refine⟨by omega,fun h t ht hqt=> ?_⟩;rcases List.mem_cons.1 ht with rfl|ht
   ·exact hp
   ·exact h2 (by omega) t ht hqt
theorem q1u{n:a8}{m:List Int}{t:Nat}(h:okB n m t=true):qbu (n.2.1.getD t ae.z) m=true:=by
 unfold okB cp at h;cases hc:qbu (n.2.1.getD t ae.z) m with
 |true=>rfl
 |false=>rw[hc]at h;simp at h
theorem jcn(new:a8)(f:List Int→List Int→Bool)(lab:ByteArray)(x y:List Int):q4u new f lab x y=(List.range new.2.1.length).any fun u=>eqS (yj new u) lab&&(okB new y u&&f x (cp new y u).2):=by
 unfold q4u cg okT;rw[List.any_map,List.any_filter];congr 1;funext u;show(okB new y u&&(eqS (yj new ((u:Int)).toNat) lab&&f x (cp new y u).2))=_;rw[Int.toNat_natCast];cases okB new y u<;>cases eqS (yj new u) lab<;>rfl
def jdr(old new:a8)(f:List Int→List Int→Bool)(x y:List Int)(t:Nat):Bool:= !qbu (old.2.1.getD t ae.z) x||(okB old x t&&qx2 old new f y (qh6 old x t))
theorem q3i(old new:a8)(f:List Int→List Int→Bool)(x y:List Int):qey old new f x y=((!decide (x=qn7 old)||decide (y=qn7 new))&&(List.range old.2.1.length).all (jdr old new f x y)):=by
 unfold qey;rw[Bool.and_assoc];congr 1;obtain⟨h1,h2⟩:=q61 (p:=okB old x) (q:=fun t=>qbu (old.2.1.getD t ae.z) x) (fun t=>q1u) (List.range old.2.1.length);have l1:(cg old x).length=((List.range old.2.1.length).filter (okB old x)).length:=List.length_map _;have l2:(enL old x).length=((List.range old.2.1.length).filter fun t=>qbu (old.2.1.getD t ae.z) x).length:=List.length_map _;rw[Bool.eq_iff_iff,Bool.and_eq_true,Bool.not_eq_true',decide_eq_false_iff_not,List.all_eq_true,List.all_eq_true,l1,l2];constructor
 ·rintro⟨g1,g2⟩ t ht;unfold jdr;cases hc:qbu (old.2.1.getD t ae.z) x with
  |false=>rfl
  |true=>
   have ho:=h2 (by omega) t ht hc;rw[ho,g2 (qh6 old x t) (List.mem_map.2 ⟨t,List.mem_filter.2 ⟨ht,ho⟩,rfl⟩)];rfl
 ·intro g;have key:∀t∈List.range old.2.1.length,qbu (old.2.1.getD t ae.z) x=true→okB old x t=true∧qx2 old new f y (qh6 old x t)=true:=fun t ht hc=>by
   have:=g t ht;unfold jdr at this;rw[hc]at this;simpa using this
  constructor
  ·have:(List.range old.2.1.length).filter (okB old x)=(List.range old.2.1.length).filter fun t=>qbu (old.2.1.getD t ae.z) x:=by
    refine List.filter_congr fun t ht=> ?_
    rw[Bool.eq_iff_iff];exact⟨q1u,fun hc=>(key t ht hc).1⟩
   rw[this];omega
  ·intro s hs;obtain⟨t,ht,rfl⟩:=List.mem_map.1 hs;obtain⟨h1,h2⟩:=List.mem_filter.1 ht;exact(key t h1 (q1u h2)).2
theorem jdm(l:List Pr):∃b,qgo l=some b∧(b=false→l.length≤60∧∀p∈l,p.1.length≤50∧p.2.1.length≤50):=by
 unfold qgo;by_cases c:(60:Int)<(l.length:Int)
 ·exact⟨true,by simp(disch:=omega)only[rs],fun h=>by cases h⟩
 ·have hL:lm l (l.length:Int) 0=some (qn6 (fun i=>(i:Int)) (og (fun p:Pr=>decide ((50:Int)<(p.1.length:Int))||decide ((50:Int)<(p.2.1.length:Int))) l)):=by
   refine k7 l ab.z (fun p:Pr=>decide ((50:Int)<(p.1.length:Int))||decide ((50:Int)<(p.2.1.length:Int))) (fun i=>(i:Int)) (by omega) (fun i hi=> ?_) ?_
   ·simp(disch:=omega)only[cx,qgp,rs];rw[am];cases decide ((50:Int)<((l.getD i ab.z).1.length:Int))<;>cases decide ((50:Int)<((l.getD i ab.z).2.1.length:Int))<;>rfl
   ·simp(disch:=omega)only[cx,rs]
  refine⟨_,by unfold fj gf;rw[tx (by omega),hL,al,t6,al,al,tz],fun h=>⟨by omega,fun p hp=> ?_⟩⟩;have:=List.any_eq_false.1 h p hp;simp only[Bool.or_eq_true,decide_eq_true_eq,not_or]at this;omega
end Go.Proofs.Ytdhfhpdadbopkaa
