/-
  Migrate: which pair is the first one that is not as a simulation asks; the law MigrateSimulates.
-/
import Derived.Test.YtdhfhpdadbopkaaZ5M3
set_option linter.all false
namespace Go.Proofs.Ytdhfhpdadbopkaa
open Go.K Go.M
def jkz(S:Mp)(p:Pr):Mp:=qcn .str (qfz p.1 p.2.1) true S
def qyh(l:List Pr):Mp:=l.foldl jkz []
def PM(old new:a8)(l:List Pr):Prop:=∀p∈l,da old.1 p.1=true∧da new.1 p.2.1=true
theorem jam{a b:Int}(l:List Pr):∀{S:Mp} {f:List Int→List Int→Bool},Tab a b S f→(∀p∈l,da a p.1=true∧da b p.2.1=true)→Tab a b (l.foldl jkz S) fun x y=>inB l x y||f x y:=by
 induction l with
 |nil=>intro S f h _;exact h
 |cons p l ih=>
  intro S f h hp;obtain⟨h1,h2⟩:=hp p List.mem_cons_self;have:=ih (ja6 h h1 h2) fun q hq=>hp q (List.mem_cons_of_mem _ hq)
  intro x y hx hy;rw[List.foldl_cons];refine(this x y hx hy).trans ?_;show(inB l x y||((decide (p.1=x)&&decide (p.2.1=y))||f x y))=(((decide (p.1=x)&&decide (p.2.1=y))||inB l x y)||f x y);cases inB l x y<;>cases(decide (p.1=x)&&decide (p.2.1=y))<;>rfl
theorem jck{old new:a8}{l:List Pr}(h:PM old new l):Tab old.1 new.1 (qyh l) (inB l):=fun x y hx hy=>by
 have:=jam l (ja5 old.1 new.1) h x y hx hy;refine this.trans ?_;show(inB l x y||false)=inB l x y;cases inB l x y<;>rfl
def qw3(old new:a8)(l:List Pr)(p:Pr):Bool:= !qq4 old new (inB l) p.1 p.2.1
section
variable {old new : a8} (ho : Small old) (hn : Small new) (vo : dv old = true) (vn : dv new = true)
include ho hn vo vn
theorem q1p{l:List Pr}(hl:l.length≤100000)(hp:PM old new l):la old new l=some (qt8 (qw3 old new l) l):=by
 obtain⟨p1,p2,_⟩:=ff vo ho;obtain⟨q1,q2,_⟩:=ff vn hn;have hL:zp l l (l.length:Int) old.1 old.2.1 old.2.2.1 old.2.2.2.1 new.1 new.2.1 new.2.2.1 new.2.2.2.1 (0,[])=some (.inl (qyh l)):=by
  refine xe (fun i=>((i:Int),qyh (l.take i))) l.length (ge (by omega)) _ (fun i hi=> ?_) ?_ _ rfl
  ·obtain⟨h1,h2⟩:=hp _ (az ab.z hi);have l1:=ns h1;have l2:=ns h2;have e:qyh (l.take (i+1))=qcn .str (qfz (l.getD i ab.z).1 (l.getD i ab.z).2.1) true (qyh (l.take i)):=by
    rw[kd l i ab.z hi];unfold qyh;rw[List.foldl_append];rfl
   rw[e];simp(disch:=omega)only[lb,q6l (l.getD i ab.z).1 (l.getD i ab.z).2.1 (by omega) (by omega),ao,rs]
  ·rw[List.take_length];simp(disch:=omega)only[lb,rs]
 have hS:=jck hp;have hF:ja l old new (l.length:Int) (0,qyh l)=some (match ot (qw3 old new l) l with|some i=> .inr ((i:Int),qyh l)|none=> .inl (qyh l)):=by
  refine qup l ab.z _ (qyh l) (by omega) (fun i hi=> ?_) ?_
  ·obtain⟨h1,h2⟩:=hp _ (az ab.z hi);have h3:=q9k ho hn vo vn hS h1 h2;simp(disch:=omega)only[ca,nc,h3,rs];unfold qw3;rw[ao];cases qq4 old new (inB l) (l.getD i ab.z).1 (l.getD i ab.z).2.1<;>rfl
  ·simp(disch:=omega)only[ca,rs]
 unfold la ep qt8;rw[hL];simp only[ba,qun];rw[hF];cases ot (qw3 old new l) l<;>rfl
end
theorem quq{n:a8}(h:Small n)(hv:dv n=true)(m:List Int)(hm:m.length≤1000000):nt n m=some (da n.1 m):=by
 unfold nt;rw[qti h m hm,hv];cases da n.1 m<;>rfl
def pmB(old new:a8)(p:Pr):Bool:=da old.1 p.1&&da new.1 p.2.1
theorem jau{old new:a8}(ho:Small old)(hn:Small new)(vo:dv old=true)(vn:dv new=true){l:List Pr}(hl:l.length≤1000000)(hp:∀p∈l,p.1.length≤1000000∧p.2.1.length≤1000000):
  rc old new l=some (!l.any fun p=> !pmB old new p):=by
 have hL:ks l old new (l.length:Int) 0=some (qt1 (fun i=>(i:Int)) (ot (fun p=> !pmB old new p) l)):=by
  refine n6 l ab.z (fun p=> !pmB old new p) (fun i=>(i:Int)) (by omega) (fun i hi=> ?_) ?_
  ·obtain⟨h1,h2⟩:=hp _ (az ab.z hi);simp(disch:=omega)only[cm,yv,quq ho vo (l.getD i ab.z).1 h1,quq hn vn (l.getD i ab.z).2.1 h2,rs];unfold pmB;rw[ao];cases da old.1 (l.getD i ab.z).1<;>cases da new.1 (l.getD i ab.z).2.1<;>rfl
  ·simp(disch:=omega)only[cm,rs]
 unfold rc eo fq;rw[hL,ba,zz,ba,ba,qbs]
theorem q56{p q:Nat→Bool}(hpq:∀t,p t=true→q t=true):∀l:List Nat,(l.filter p).length≤(l.filter q).length∧((l.filter q).length≤(l.filter p).length→∀t∈l,q t=true→p t=true)
 |[]=>⟨Nat.le_refl _,fun _ t ht=>by cases ht⟩
 |a::l=>by
  obtain⟨h1,h2⟩:=q56 hpq l;have ha:=hpq a;rw[List.filter_cons,List.filter_cons];cases hp:p a<;>cases hq:q a
  ·simp only[Bool.false_eq_true,if_false];refine⟨h1,fun h t ht hqt=> ?_⟩;rcases List.mem_cons.1 ht with rfl|ht
   ·rw[hq]at hqt;cases hqt
   ·exact h2 h t ht hqt
  ·simp only[Bool.false_eq_true,if_false,if_true,List.length_cons];exact⟨by omega,fun h=>by omega⟩
  ·rw[ha hp]at hq;cases hq
  ·simp only[if_true,List.length_cons];refine⟨by omega,fun h t ht hqt=> ?_⟩;rcases List.mem_cons.1 ht with rfl|ht
   ·exact hp
   ·exact h2 (by omega) t ht hqt
theorem q40{n:a8}{m:List Int}{t:Nat}(h:okB n m t=true):vi (n.2.1.getD t ae.z) m=true:=by
 unfold okB jq at h;cases hc:vi (n.2.1.getD t ae.z) m with
 |true=>rfl
 |false=>rw[hc]at h;simp at h
theorem ja7(new:a8)(f:List Int→List Int→Bool)(lab:ByteArray)(x y:List Int):qzu new f lab x y=(List.range new.2.1.length).any fun u=>eqS (qgr new u) lab&&(okB new y u&&f x (jq new y u).2):=by
 unfold qzu b9 okT;rw[List.any_map,List.any_filter];congr 1;funext u;show(okB new y u&&(eqS (qgr new ((u:Int)).toNat) lab&&f x (jq new y u).2))=_;rw[Int.toNat_natCast];cases okB new y u<;>cases eqS (qgr new u) lab<;>rfl
def q3j(old new:a8)(f:List Int→List Int→Bool)(x y:List Int)(t:Nat):Bool:= !vi (old.2.1.getD t ae.z) x||(okB old x t&&qtp old new f y (qcf old x t))
theorem q9j(old new:a8)(f:List Int→List Int→Bool)(x y:List Int):qq4 old new f x y=((!decide (x=qt3 old)||decide (y=qt3 new))&&(List.range old.2.1.length).all (q3j old new f x y)):=by
 unfold qq4;rw[Bool.and_assoc];congr 1;obtain⟨h1,h2⟩:=q56 (p:=okB old x) (q:=fun t=>vi (old.2.1.getD t ae.z) x) (fun t=>q40) (List.range old.2.1.length);have l1:(b9 old x).length=((List.range old.2.1.length).filter (okB old x)).length:=List.length_map _;have l2:(enL old x).length=((List.range old.2.1.length).filter fun t=>vi (old.2.1.getD t ae.z) x).length:=List.length_map _;rw[Bool.eq_iff_iff,Bool.and_eq_true,Bool.not_eq_true',decide_eq_false_iff_not,List.all_eq_true,List.all_eq_true,l1,l2];constructor
 ·rintro⟨g1,g2⟩ t ht;unfold q3j;cases hc:vi (old.2.1.getD t ae.z) x with
  |false=>rfl
  |true=>
   have ho:=h2 (by omega) t ht hc;rw[ho,g2 (qcf old x t) (List.mem_map.2 ⟨t,List.mem_filter.2 ⟨ht,ho⟩,rfl⟩)];rfl
 ·intro g;have key:∀t∈List.range old.2.1.length,vi (old.2.1.getD t ae.z) x=true→okB old x t=true∧qtp old new f y (qcf old x t)=true:=fun t ht hc=>by
   have:=g t ht;unfold q3j at this;rw[hc]at this;simpa using this
  constructor
  ·have:(List.range old.2.1.length).filter (okB old x)=(List.range old.2.1.length).filter fun t=>vi (old.2.1.getD t ae.z) x:=by
    refine List.filter_congr fun t ht=> ?_
    rw[Bool.eq_iff_iff];exact⟨q40,fun hc=>(key t ht hc).1⟩
   rw[this];omega
  ·intro s hs;obtain⟨t,ht,rfl⟩:=List.mem_map.1 hs;obtain⟨h1,h2⟩:=List.mem_filter.1 ht;exact(key t h1 (q40 h2)).2
section
variable {old new : a8} (ho : Small old) (hn : Small new) (vo : dv old = true) (vn : dv new = true) {l : List Pr} (hl : l.length ≤ 100000) (hp : PM old new l)
include ho hn vo vn hl hp
theorem je8:∀p∈l,p.1.length≤1000∧p.2.1.length≤1000:=fun p h=>by
 obtain⟨p1,p2,_⟩:=ff vo ho;obtain⟨q1,q2,_⟩:=ff vn hn;obtain⟨h1,h2⟩:=hp p h;have l1:=ns h1;have l2:=ns h2;omega
theorem q16(lab:ByteArray)(x:List Int){y:List Int}(hy:da new.1 y=true):o8 new l lab x y=some ((eqS lab ⟨#[]⟩&&inB l x y)||qzu new (inB l) lab x y):=by
 have hlen:=je8 ho hn vo vn hl hp;have ht:=hn.trans;have hI:=fun z=>jih l (by omega) hlen x z
 have hT:px l lab x y new.1 new.2.1 new.2.2.1 new.2.2.2.1=some (.inr (qzu new (inB l) lab x y)):=by
  have hL:qd2 l lab x y new.1 new.2.1 new.2.2.1 new.2.2.2.1 0=some (bif (List.range new.2.1.length).all (fun u=> !(eqS (qgr new u) lab&&(okB new y u&&inB l x (jq new y u).2)))then .inl ()else .inr true):=by
   have hst:∀u:Nat,u<new.2.1.length→lf l lab x y new.1 new.2.1 new.2.2.1 new.2.2.2.1 (R:=LR Int Unit Bool) (u:Int) (fun a' =>some (.next a')) (fun e=>some (.done e)) (fun r=>some (.ret r))=some (bif !(eqS (qgr new u) lab&&(okB new y u&&inB l x (jq new y u).2))then .next ((u+1:Nat):Int)else .ret true):=fun u hu=>by
    have hF:sk (new.1,new.2.1,new.2.2.1,new.2.2.2.1,()) y (u:Int)=some (jq new y u):=qwo hn vn hy hu;have e1:qgr new u=(new.2.1.getD u ae.z).1:=rfl;have e2:okB new y u=decide ((jq new y u).1=0):=rfl;unfold lf;rw[e1,e2];simp(disch:=omega)only[qi0,hF,hI,ao,rs];cases eqS (new.2.1.getD u ae.z).1 lab<;>cases decide ((jq new y u).1=0)<;>cases inB l x (jq new y u).2<;>rfl
   exact ov (fun i:Nat=>(i:Int)) new.2.1.length (ge (by omega)) (fun u=> !(eqS (qgr new u) lab&&(okB new y u&&inB l x (jq new y u).2))) () true (fun i hi hq=>(hst i hi).trans (by rw[hq];rfl)) (fun i hi hq=>(hst i hi).trans (by rw[hq];rfl)) (by simp(disch:=omega)only[lf,rs])
  unfold px u5;rw[hL,ja7,List.all_eq_not_any_not];simp only[Bool.not_not];cases(List.range new.2.1.length).any fun u=>eqS (qgr new u) lab&&(okB new y u&&inB l x (jq new y u).2)<;>rfl
 unfold o8;rw[hT,hI];simp only[ba,qi0];cases eqS lab ⟨#[]⟩<;>cases inB l x y<;>rfl
theorem q8o{p:Pr}(h1:da old.1 p.1=true)(h2:da new.1 p.2.1=true):yf old new l p=some (qq4 old new (inB l) p.1 p.2.1):=by
 obtain⟨p1,p2,p3,p4,p5,_⟩:=ff vo ho;obtain⟨q1,q2,q3,q4,q5,_⟩:=ff vn hn;have l1:=ns h1;have l2:=ns h2;have ht:=ho.trans;have hT:xp l old.1 old.2.1 old.2.2.1 old.2.2.2.1 new.1 new.2.1 new.2.2.1 new.2.2.2.1 p.1 p.2.1=some (.inr ((List.range old.2.1.length).all (q3j old new (inB l) p.1 p.2.1))):=by
  have hL:qkz l old.1 old.2.1 old.2.2.1 old.2.2.2.1 new.1 new.2.1 new.2.2.1 new.2.2.2.1 p.1 p.2.1 0=some (bif (List.range old.2.1.length).all (q3j old new (inB l) p.1 p.2.1)then .inl ()else .inr false):=by
   have hst:∀t:Nat,t<old.2.1.length→o7 l old.1 old.2.1 old.2.2.1 old.2.2.2.1 new.1 new.2.1 new.2.2.1 new.2.2.2.1 p.1 p.2.1 (R:=LR Int Unit Bool) (t:Int) (fun a' =>some (.next a')) (fun e=>some (.done e)) (fun r=>some (.ret r))=some (bif q3j old new (inB l) p.1 p.2.1 t then .next ((t+1:Nat):Int)else .ret false):=fun t hti=>by
    have hC:qah (old.1,old.2.1,old.2.2.1,old.2.2.2.1,()) p.1 (t:Int)=some (vi (old.2.1.getD t ae.z) p.1):=qze hti (q57 ho vo h1 hti);have hF:sk (old.1,old.2.1,old.2.2.1,old.2.2.2.1,()) p.1 (t:Int)=some (jq old p.1 t):=qwo ho vo h1 hti;have hA:o8 (new.1,new.2.1,new.2.2.1,new.2.2.2.1,()) l (old.2.1.getD t ae.z).1 (jq old p.1 t).2 p.2.1=some (qtp old new (inB l) p.2.1 (qcf old p.1 t)):=q16 ho hn vo vn hl hp _ _ h2;have e2:okB old p.1 t=decide ((jq old p.1 t).1=0):=rfl;unfold o7 q3j;rw[e2];simp(disch:=omega)only[hC,hF,hA,ao,rs];cases vi (old.2.1.getD t ae.z) p.1<;>cases decide ((jq old p.1 t).1=0)<;>cases qtp old new (inB l) p.2.1 (qcf old p.1 t)<;>rfl
   exact ov (fun i:Nat=>(i:Int)) old.2.1.length (ge (by omega)) _ () false (fun i hi hq=>(hst i hi).trans (by rw[hq];rfl)) (fun i hi hq=>(hst i hi).trans (by rw[hq];rfl)) (by simp(disch:=omega)only[o7,rs])
  unfold xp qbd;rw[hL];cases(List.range old.2.1.length).all (q3j old new (inB l) p.1 p.2.1)<;>rfl
 have f1:o9 old p.1=some (decide (p.1=qt3 old)):=by
  unfold o9;rw[(q41 ho vo p5).2,ba,qfc _ _ (by omega)];rfl
 have f2:o9 new p.2.1=some (decide (p.2.1=qt3 new)):=by
  unfold o9;rw[(q41 hn vn q5).2,ba,qfc _ _ (by omega)];rfl
 unfold yf;rw[f1,f2,hT,q9j];simp only[ba];cases decide (p.1=qt3 old)<;>cases decide (p.2.1=qt3 new)<;>rfl
theorem q8q:qcc old new l=some (qt8 (qw3 old new l) l):=by
 have hL:qk1 l old.1 old.2.1 old.2.2.1 old.2.2.2.1 new.1 new.2.1 new.2.2.1 new.2.2.2.1 0=some (qt1 (fun i=>(i:Int)) (ot (qw3 old new l) l)):=by
  refine n6 l ab.z (qw3 old new l) (fun i=>(i:Int)) (by omega) (fun i hi=> ?_) ?_
  ·obtain⟨h1,h2⟩:=hp _ (az ab.z hi);have hR:yf (old.1,old.2.1,old.2.2.1,old.2.2.2.1,()) (new.1,new.2.1,new.2.2.1,new.2.2.2.1,()) l (l.getD i ab.z)=_:=q8o ho hn vo vn hl hp h1 h2;simp(disch:=omega)only[u4,hR,rs];unfold qw3;rw[ao];cases qq4 old new (inB l) (l.getD i ab.z).1 (l.getD i ab.z).2.1<;>rfl
  ·simp(disch:=omega)only[u4,rs]
 unfold qcc;rw[hL,ba,zz]
end
theorem q14(old new:a8){l:List Pr}(hl:l.length≤1000000)(hp:∀p∈l,p.1.length≤1000000∧p.2.1.length≤1000000):uz old new l=some (!l.any fun p=> !pmB old new p):=by
 have hL:qd0 l old.1 old.2.1 old.2.2.1 old.2.2.2.1 new.1 new.2.1 new.2.2.1 new.2.2.2.1 0=some (bif l.any (fun p=> !pmB old new p)then .inr false else .inl ()):=by
  refine l3 l ab.z (fun p=> !pmB old new p) false (by omega) (fun i hi=> ?_) ?_
  ·obtain⟨h1,h2⟩:=hp _ (az ab.z hi);have a1:gg (old.1,old.2.1,old.2.2.1,old.2.2.2.1,()) (l.getD i ab.z).1=_:=xq old _ h1;have a2:gg (new.1,new.2.1,new.2.2.1,new.2.2.2.1,()) (l.getD i ab.z).2.1=_:=xq new _ h2;simp(disch:=omega)only[oi,a1,a2,rs];unfold pmB;rw[ao];cases da old.1 (l.getD i ab.z).1<;>cases da new.1 (l.getD i ab.z).2.1<;>rfl
  ·simp(disch:=omega)only[oi,rs]
 unfold uz;rw[hL];cases l.any fun p=> !pmB old new p<;>rfl
theorem q8n(l:List Pr)(hl:l.length≤100000):qcb l=some l:=by
 have hL:qkx l (0,[])=some (.inl l):=by
  refine xe (fun i=>((i:Int),l.take i)) l.length (ge (by omega)) _ (fun i hi=> ?_) ?_ _ rfl
  ·have e:(l.take i).length=i:=by rw[List.length_take];omega
   rw[kd l i ab.z hi];simp(disch:=omega)only[u3,e,ao,rs]
  ·rw[List.take_length];simp(disch:=omega)only[u3,rs]
 unfold qcb;rw[hL];rfl
theorem jb9(l:List Pr):∃b,qew l=some b∧(b=false→l.length≤60∧∀p∈l,p.1.length≤50∧p.2.1.length≤50):=by
 unfold qew;by_cases c:(60:Int)<(l.length:Int)
 ·exact⟨true,by simp(disch:=omega)only[rs],fun h=>by cases h⟩
 ·have hL:kl l (l.length:Int) 0=some (qt1 (fun i=>(i:Int)) (ot (fun p:Pr=>decide ((50:Int)<(p.1.length:Int))||decide ((50:Int)<(p.2.1.length:Int))) l)):=by
   refine n6 l ab.z (fun p:Pr=>decide ((50:Int)<(p.1.length:Int))||decide ((50:Int)<(p.2.1.length:Int))) (fun i=>(i:Int)) (by omega) (fun i hi=> ?_) ?_
   ·simp(disch:=omega)only[cl,qex,rs];rw[ao];cases decide ((50:Int)<((l.getD i ab.z).1.length:Int))<;>cases decide ((50:Int)<((l.getD i ab.z).2.1.length:Int))<;>rfl
   ·simp(disch:=omega)only[cl,rs]
  refine⟨_,by unfold en fp;rw[q5x (by omega),hL,ba,zz,ba,ba,qbs],fun h=>⟨by omega,fun p hp=> ?_⟩⟩;have:=List.any_eq_false.1 h p hp;simp only[Bool.or_eq_true,decide_eq_true_eq,not_or]at this;omega
theorem q4n{α:Type}(q:α→Bool)(l:List α):qt8 q l= -1∨0≤qt8 q l:=by
 unfold qt8;cases ot q l with
 |none=>exact .inl rfl
 |some i=>exact .inr (by simp)
theorem qgp(old new:a8)(l:List Pr):m7 old new l=some true:=by
 unfold m7;rw[q32];obtain⟨b1,hb1,g1⟩:=q2q old;obtain⟨b2,hb2,g2⟩:=q2q new;obtain⟨b3,hb3,g3⟩:=jb9 l;simp only[ba,Bool.not_true,cond_false];rw[hb1,ba];cases b1 with
 |true=>rfl
 |false=>
  simp only[cond_false];rw[hb2,ba];cases b2 with
  |true=>rfl
  |false=>
   simp only[cond_false];rw[hb3,ba];cases b3 with
   |true=>rfl
   |false=>
    have ho:=(g1 rfl).small;have hn:=(g2 rfl).small;obtain⟨hl,hp⟩:=g3 rfl;obtain⟨w1,a1,a2,a3⟩:=qqy ho;obtain⟨w2,c1,c2,c3⟩:=qqy hn;simp only[cond_false];rw[q8n l (by omega),a2,c2];unfold ub ug;rw[a1,c1];simp only[ba];cases w1 with
    |false=>rfl
    |true=>
     cases w2 with
     |false=>rfl
     |true=>
      have vo:=(a3.1 rfl).1;have vn:=(c3.1 rfl).1;have hp' :∀p∈l,p.1.length≤1000000∧p.2.1.length≤1000000:=fun p h=>by have:=hp p h;omega
      rw[jau ho hn vo vn (by omega) hp',q14 old new (by omega) hp'];simp only[ba,Bool.not_true,cond_false,Bool.not_not];cases ha:l.any fun p=> !pmB old new p with
      |true=>rfl
      |false=>
       have hpm:PM old new l:=fun p h=>by
        have:=List.any_eq_false.1 ha p h;unfold pmB at this;simpa using this
       have e1:=q1p ho hn vo vn (l:=l) (by omega) hpm;have e2:=q8q ho hn vo vn (l:=l) (by omega) hpm;rw[e1,e2];simp(disch:=omega)only[decide_true,rs];rcases q4n (qw3 old new l) l with e|e
       ·rw[e];rfl
       ·rw[decide_eq_true e,decide_eq_false (show¬qt8 (qw3 old new l) l<0 by omega),Int.max_eq_left e];simp
end Go.Proofs.Ytdhfhpdadbopkaa
