/-
  Migrate: which pair is the first one that is not as a simulation asks; the law MigrateSimulates.
-/
import Derived.Test.YtdhfhpdadbopkaaZ4M3
set_option linter.all false
namespace Go.Proofs.Ytdhfhpdadbopkaa
open Go.K Go.M
def jgs(S:Mp)(p:Pr):Mp:=qb7 .str (qe5 p.1 p.2.1) true S
def qt7(l:List Pr):Mp:=l.foldl jgs []
def PM(old new:a8)(l:List Pr):Prop:=∀p∈l,dx old.1 p.1=true∧dx new.1 p.2.1=true
theorem q6f{a b:Int}(l:List Pr):∀{S:Mp} {f:List Int→List Int→Bool},Tab a b S f→(∀p∈l,dx a p.1=true∧dx b p.2.1=true)→Tab a b (l.foldl jgs S) fun x y=>inB l x y||f x y:=by
 induction l with
 |nil=>intro S f h _;exact h
 |cons p l ih=>
  intro S f h hp;obtain⟨h1,h2⟩:=hp p List.mem_cons_self;have:=ih (q6z h h1 h2) fun q hq=>hp q (List.mem_cons_of_mem _ hq)
  intro x y hx hy;rw[List.foldl_cons];refine(this x y hx hy).trans ?_;show(inB l x y||((decide (p.1=x)&&decide (p.2.1=y))||f x y))=(((decide (p.1=x)&&decide (p.2.1=y))||inB l x y)||f x y);cases inB l x y<;>cases(decide (p.1=x)&&decide (p.2.1=y))<;>rfl
theorem q8c{old new:a8}{l:List Pr}(h:PM old new l):Tab old.1 new.1 (qt7 l) (inB l):=fun x y hx hy=>by
 have:=q6f l (q6y old.1 new.1) h x y hx hy;refine this.trans ?_;show(inB l x y||false)=inB l x y;cases inB l x y<;>rfl
def qxv(old new:a8)(l:List Pr)(p:Pr):Bool:= !qbd old new (inB l) p.1 p.2.1
section
variable {old new : a8} (ho : Small old) (hn : Small new) (vo : cj old = true) (vn : cj new = true)
include ho hn vo vn
theorem qxa{l:List Pr}(hl:l.length≤100000)(hp:PM old new l):oh old new l=some (qte (qxv old new l) l):=by
 obtain⟨p1,p2,_⟩:=em vo ho;obtain⟨q1,q2,_⟩:=em vn hn;have hL:za l l (l.length:Int) old.1 old.2.1 old.2.2.1 old.2.2.2.1 new.1 new.2.1 new.2.2.1 new.2.2.2.1 (0,[])=some (.inl (qt7 l)):=by
  refine xa (fun i=>((i:Int),qt7 (l.take i))) l.length (gg (by omega)) _ (fun i hi=> ?_) ?_ _ rfl
  ·obtain⟨h1,h2⟩:=hp _ (a7 ab.z hi);have l1:=ox h1;have l2:=ox h2;have e:qt7 (l.take (i+1))=qb7 .str (qe5 (l.getD i ab.z).1 (l.getD i ab.z).2.1) true (qt7 (l.take i)):=by
    rw[ia l i ab.z hi];unfold qt7;rw[List.foldl_append];rfl
   rw[e];simp(disch:=omega)only[ln,q2b (l.getD i ab.z).1 (l.getD i ab.z).2.1 (by omega) (by omega),am,rs]
  ·rw[List.take_length];simp(disch:=omega)only[ln,rs]
 have hS:=q8c hp;have hF:je l old new (l.length:Int) (0,qt7 l)=some (match ov (qxv old new l) l with|some i=> .inr ((i:Int),qt7 l)|none=> .inl (qt7 l)):=by
  refine qru l ab.z _ (qt7 l) (by omega) (fun i hi=> ?_) ?_
  ·obtain⟨h1,h2⟩:=hp _ (a7 ab.z hi);have h3:=q49 ho hn vo vn hS h1 h2;simp(disch:=omega)only[cf,ni,h3,rs];unfold qxv;rw[am];cases qbd old new (inB l) (l.getD i ab.z).1 (l.getD i ab.z).2.1<;>rfl
  ·simp(disch:=omega)only[cf,rs]
 unfold oh ez qte;rw[hL];simp only[au,qjq];rw[hF];cases ov (qxv old new l) l<;>rfl
end
theorem qrv{n:a8}(h:Small n)(hv:cj n=true)(m:List Int)(hm:m.length≤1000000):nv n m=some (dx n.1 m):=by
 unfold nv;rw[qql h m hm,hv];cases dx n.1 m<;>rfl
def pmB(old new:a8)(p:Pr):Bool:=dx old.1 p.1&&dx new.1 p.2.1
theorem q6n{old new:a8}(ho:Small old)(hn:Small new)(vo:cj old=true)(vn:cj new=true){l:List Pr}(hl:l.length≤1000000)(hp:∀p∈l,p.1.length≤1000000∧p.2.1.length≤1000000):
  xe old new l=some (!l.any fun p=> !pmB old new p):=by
 have hL:la l old new (l.length:Int) 0=some (qq2 (fun i=>(i:Int)) (ov (fun p=> !pmB old new p) l)):=by
  refine n9 l ab.z (fun p=> !pmB old new p) (fun i=>(i:Int)) (by omega) (fun i hi=> ?_) ?_
  ·obtain⟨h1,h2⟩:=hp _ (a7 ab.z hi);simp(disch:=omega)only[cx,yl,qrv ho vo (l.getD i ab.z).1 h1,qrv hn vn (l.getD i ab.z).2.1 h2,rs];unfold pmB;rw[am];cases dx old.1 (l.getD i ab.z).1<;>cases dx new.1 (l.getD i ab.z).2.1<;>rfl
  ·simp(disch:=omega)only[cx,rs]
 unfold xe ey f5;rw[hL,au,zi,au,au,zh]
theorem q1v{p q:Nat→Bool}(hpq:∀t,p t=true→q t=true):∀l:List Nat,(l.filter p).length≤(l.filter q).length∧((l.filter q).length≤(l.filter p).length→∀t∈l,q t=true→p t=true)
 |[]=>⟨Nat.le_refl _,fun _ t ht=>by cases ht⟩
 |a::l=>by
  obtain⟨h1,h2⟩:=q1v hpq l;have ha:=hpq a;rw[List.filter_cons,List.filter_cons];cases hp:p a<;>cases hq:q a
  ·simp only[Bool.false_eq_true,if_false];refine⟨h1,fun h t ht hqt=> ?_⟩;rcases List.mem_cons.1 ht with rfl|ht
   ·rw[hq]at hqt;cases hqt
   ·exact h2 h t ht hqt
  ·simp only[Bool.false_eq_true,if_false,if_true,List.length_cons];exact⟨by omega,fun h=>by omega⟩
  ·rw[ha hp]at hq;cases hq
  ·simp only[if_true,List.length_cons];refine⟨by omega,fun h t ht hqt=> ?_⟩;rcases List.mem_cons.1 ht with rfl|ht
   ·exact hp
   ·exact h2 (by omega) t ht hqt
theorem qwq{n:a8}{m:List Int}{t:Nat}(h:okB n m t=true):xn (n.2.1.getD t ae.z) m=true:=by
 unfold okB mo at h;cases hc:xn (n.2.1.getD t ae.z) m with
 |true=>rfl
 |false=>rw[hc]at h;simp at h
theorem q1g(new:a8)(f:List Int→List Int→Bool)(lab:ByteArray)(x y:List Int):qzq new f lab x y=(List.range new.2.1.length).any fun u=>eqS (qb4 new u) lab&&(okB new y u&&f x (mo new y u).2):=by
 unfold qzq ce okT;rw[List.any_map,List.any_filter];congr 1;funext u;show(okB new y u&&(eqS (qb4 new ((u:Int)).toNat) lab&&f x (mo new y u).2))=_;rw[Int.toNat_natCast];cases okB new y u<;>cases eqS (qb4 new u) lab<;>rfl
def q55(old new:a8)(f:List Int→List Int→Bool)(x y:List Int)(t:Nat):Bool:= !xn (old.2.1.getD t ae.z) x||(okB old x t&&qqr old new f y (qfk old x t))
theorem qrd(old new:a8)(f:List Int→List Int→Bool)(x y:List Int):qbd old new f x y=((!decide (x=qpe old)||decide (y=qpe new))&&(List.range old.2.1.length).all (q55 old new f x y)):=by
 unfold qbd;rw[Bool.and_assoc];congr 1;obtain⟨h1,h2⟩:=q1v (p:=okB old x) (q:=fun t=>xn (old.2.1.getD t ae.z) x) (fun t=>qwq) (List.range old.2.1.length);have l1:(ce old x).length=((List.range old.2.1.length).filter (okB old x)).length:=List.length_map _;have l2:(enL old x).length=((List.range old.2.1.length).filter fun t=>xn (old.2.1.getD t ae.z) x).length:=List.length_map _;rw[Bool.eq_iff_iff,Bool.and_eq_true,Bool.not_eq_true',decide_eq_false_iff_not,List.all_eq_true,List.all_eq_true,l1,l2];constructor
 ·rintro⟨g1,g2⟩ t ht;unfold q55;cases hc:xn (old.2.1.getD t ae.z) x with
  |false=>rfl
  |true=>
   have ho:=h2 (by omega) t ht hc;rw[ho,g2 (qfk old x t) (List.mem_map.2 ⟨t,List.mem_filter.2 ⟨ht,ho⟩,rfl⟩)];rfl
 ·intro g;have key:∀t∈List.range old.2.1.length,xn (old.2.1.getD t ae.z) x=true→okB old x t=true∧qqr old new f y (qfk old x t)=true:=fun t ht hc=>by
   have:=g t ht;unfold q55 at this;rw[hc]at this;simpa using this
  constructor
  ·have:(List.range old.2.1.length).filter (okB old x)=(List.range old.2.1.length).filter fun t=>xn (old.2.1.getD t ae.z) x:=by
    refine List.filter_congr fun t ht=> ?_
    rw[Bool.eq_iff_iff];exact⟨qwq,fun hc=>(key t ht hc).1⟩
   rw[this];omega
  ·intro s hs;obtain⟨t,ht,rfl⟩:=List.mem_map.1 hs;obtain⟨h1,h2⟩:=List.mem_filter.1 ht;exact(key t h1 (qwq h2)).2
theorem q12(l:List Pr):∃b,qaa l=some b∧(b=false→l.length≤60∧∀p∈l,p.1.length≤50∧p.2.1.length≤50):=by
 unfold qaa;by_cases c:(60:Int)<(l.length:Int)
 ·exact⟨true,by simp(disch:=omega)only[rs],fun h=>by cases h⟩
 ·have hL:kz l (l.length:Int) 0=some (qq2 (fun i=>(i:Int)) (ov (fun p:Pr=>decide ((50:Int)<(p.1.length:Int))||decide ((50:Int)<(p.2.1.length:Int))) l)):=by
   refine n9 l ab.z (fun p:Pr=>decide ((50:Int)<(p.1.length:Int))||decide ((50:Int)<(p.2.1.length:Int))) (fun i=>(i:Int)) (by omega) (fun i hi=> ?_) ?_
   ·simp(disch:=omega)only[cu,qd6,rs];rw[am];cases decide ((50:Int)<((l.getD i ab.z).1.length:Int))<;>cases decide ((50:Int)<((l.getD i ab.z).2.1.length:Int))<;>rfl
   ·simp(disch:=omega)only[cu,rs]
  refine⟨_,by unfold ew fx;rw[qbb (by omega),hL,au,zi,au,au,zh],fun h=>⟨by omega,fun p hp=> ?_⟩⟩;have:=List.any_eq_false.1 h p hp;simp only[Bool.or_eq_true,decide_eq_true_eq,not_or]at this;omega
end Go.Proofs.Ytdhfhpdadbopkaa
