/-
  Predict: which nets are few; final markings; finding a marking; keys.
-/
import Derived.Test.YtokeielgplbdeaaZ4W7
set_option linter.all false
namespace Go.Proofs.Ytokeielgplbdeaa
open Go.K Go.M
structure Few (n : c8) (m : List Int) (ts : List af) : Prop where
 places : n.1 ≤ 14
 trans : n.2.1.length ≤ 16
 ins : ∀ t ∈ n.2.1, t.2.1.length ≤ 20
 outs : ∀ t ∈ n.2.1, t.2.2.1.length ≤ 20
 mark : m.length ≤ 20
 times : ts.length ≤ 20
theorem Few.small{n:c8}{m:List Int}{ts:List af}(h:Few n m ts):Small n:=⟨by have:=h.trans;omega,fun t ht=>by have:=h.ins t ht;omega,fun t ht=>by have:=h.outs t ht;omega⟩
def qqx(t:ai):Bool:=decide ((20:Int)<(t.2.1.length:Int))||decide ((20:Int)<(t.2.2.1.length:Int))||decide ((100:Int)<(t.1.size:Int))
theorem je4(n:c8)(m:List Int)(ts:List af):∃b,qhx n m ts=some b∧(b=true→Few n m ts):=by
 have h1:∀t:ai,z8 t=some (qqx t):=fun t=>by
  unfold z8 qqx;cases decide ((20:Int)<(t.2.1.length:Int))<;>cases decide ((20:Int)<(t.2.2.1.length:Int))<;>rfl
 have hC:n.2.1.length≤100→ch n.2.1=some (n.2.1.any qqx):=fun hl=>by
  have hL:g9 n.2.1 (n.2.1.length:Int) 0=some (qvf (fun i=>(i:Int)) (km qqx n.2.1)):=by
   refine ro n.2.1 ai.z qqx (fun i=>(i:Int)) (by omega) (fun i hi=> ?_) ?_
   ·simp(disch:=omega)only[ci,h1,rs];rw[aj];exact qy7
   ·simp(disch:=omega)only[ci,rs]
  unfold ch dy;rw[hL,i4,qd8,i4,qku]
 unfold qhx;by_cases c1:n.1≤14
 ·by_cases c2:(n.2.1.length:Int)≤16
  ·by_cases c3:(m.length:Int)≤20
   ·by_cases c4:(ts.length:Int)≤20
    ·refine⟨!n.2.1.any qqx,by simp(disch:=omega)only[hC (by omega),rs],fun hb=> ?_⟩;rw[Bool.not_eq_true']at hb;have key:∀t∈n.2.1,t.2.1.length≤20∧t.2.2.1.length≤20:=fun t ht=>by
      have:=List.any_eq_false.1 hb t ht;simp only[qqx,Bool.or_eq_true,decide_eq_true_eq,not_or]at this;omega
     exact⟨c1,by omega,fun t ht=>(key t ht).1,fun t ht=>(key t ht).2,by omega,by omega⟩
    ·exact⟨false,by simp(disch:=omega)only[rs],fun h=>by cases h⟩
   ·exact⟨false,by simp(disch:=omega)only[rs],fun h=>by cases h⟩
  ·exact⟨false,by simp(disch:=omega)only[rs],fun h=>by cases h⟩
 ·exact⟨false,by simp(disch:=omega)only[rs],fun h=>by cases h⟩
theorem q9e(a b:List Int)(ha:a.length≤1000000):tl a b=some (decide (a=b)):=by
 unfold tl;by_cases hl:a.length=b.length
 ·rw[qhu (by simp[hl])];have hloop:yd a b 0=some (bif (List.range a.length).all (fun i=>decide (a.getD i 0=b.getD i 0))then .inl ()else .inr false):=by
   refine qcc (fun i:Nat=>(i:Int)) a.length (bh (by omega)) _ () false ?_ ?_ ?_
   ·intro i hi hp;have hp' :a.getD i 0=b.getD i 0:=of_decide_eq_true hp;simp(disch:=omega)only[k8,rs];rw[aj]
   ·intro i hi hp;have hp' :a.getD i 0≠b.getD i 0:=of_decide_eq_false hp;simp(disch:=omega)only[k8,rs]
   ·simp(disch:=omega)only[k8,rs]
  rw[hloop,i4];have hall:(List.range a.length).all (fun i=>decide (a.getD i 0=b.getD i 0))=decide (a=b):=by
   rw[Bool.eq_iff_iff,List.all_eq_true,decide_eq_true_iff];constructor
   ·intro h;refine List.ext_getElem hl fun i h1 h2=> ?_
    have:=of_decide_eq_true (h i (List.mem_range.2 h1));rw[ky a i 0 h1,ky b i 0 h2]at this;exact this
   ·rintro rfl i _;simp
  rw[hall];cases decide (a=b)<;>rfl
 ·have:¬a=b:=fun h=>hl (by rw[h])
  rw[qhv (by simp;omega),decide_eq_false this]
def qov(st:List (List Int))(m:List Int):Int:=qx4 (fun x:List Int=>decide (x=m)) st
theorem qr0(s:j9)(m:List Int)(hs:s.1.length≤1000000)(hr:∀x∈s.1,x.length≤1000000):qep s m=some (qov s.1 m):=by
 have hL:qlw m s.1 s.2.1 s.2.2.1 0=some (qvf (fun i=>(i:Int)) (km (fun x:List Int=>decide (x=m)) s.1)):=by
  refine ro s.1 [] (fun x:List Int=>decide (x=m)) (fun i=>(i:Int)) (by omega) (fun i hi=> ?_) ?_
  ·have h1:=q9e (s.1.getD i []) m (hr _ (aw [] hi));simp(disch:=omega)only[qbw,h1,rs];rw[aj];cases decide (s.1.getD i []=m)<;>rfl
  ·simp(disch:=omega)only[qbw,rs]
 unfold qep;rw[hL,i4];exact qd8 _ _
theorem q1u(s:j9)(m:List Int)(hs:s.1.length≤1000000)(hr:∀x∈s.1,x.length≤1000000):qew s m=some (qov s.1 m):=by
 have h1:∀x∈s.1,yr x m=some (decide (x=m)):=fun x hx=>by
  have:=qxd x m (hr x hx);unfold yr;simp(disch:=omega)only[this,rs]
 have hL:mq s.1 m (s.1.length:Int) 0=some (qvf (fun i=>(i:Int)) (km (fun x:List Int=>decide (x=m)) s.1)):=by
  refine ro s.1 [] (fun x:List Int=>decide (x=m)) (fun i=>(i:Int)) (by omega) (fun i hi=> ?_) ?_
  ·have h1:=h1 (s.1.getD i []) (aw [] hi);simp(disch:=omega)only[d9,h1,rs];rw[aj];cases decide (s.1.getD i []=m)<;>rfl
  ·simp(disch:=omega)only[d9,rs]
 unfold qew jj;rw[hL,i4];exact congrArg (fun o=>bnd o fun r1=>some r1) (qd8 _ _)
def qgo(N:Int)(p:Int):List Int:=ca N.toNat fun i=>if(i:Int)=p then 1 else 0
theorem qe1{n:c8}(hv:db n=true):1≤n.1∧n.1≤40∧0≤n.2.2.2.1∧n.2.2.2.1<n.1∧n.2.1.length≤60:=by
 unfold db at hv;simp only[Bool.and_eq_true,decide_eq_true_eq]at hv;exact⟨hv.1.1.1.1.1,hv.1.1.1.1.2,hv.2.1,hv.2.2,hv.1.1.1.2⟩
theorem qpt{n:c8}(h:Small n)(hv:db n=true):w9 n=some (0,qgo n.1 n.2.2.2.1):=by
 obtain⟨h1,h2,h3,h4,_⟩:=qe1 hv;have e:=qgb h;rw[hv]at e;have e2:(List.replicate n.1.toNat (0:Int)).set n.2.2.2.1.toNat 1=qgo n.1 n.2.2.2.1:=by
  rw[qex,qpp];refine yw fun v hv=> ?_
  by_cases c:v=n.2.2.2.1.toNat
  ·rw[if_pos c,if_pos (by omega)]
  ·rw[if_neg c,if_neg (by omega)]
 have hlen:(List.replicate n.1.toNat (0:Int)).length=n.1.toNat:=by simp
 unfold w9 qm7;simp(disch:=omega)only[e,Bool.not_true,rs];rw[e2]
theorem qy0{n:c8}(hN:n.1≤1000):qhd n=some (qgo n.1 n.2.2.2.1):=by
 have hL:qod n.2.2.2.1 n.1 n.2.1 n.2.2.1 n.2.2.2.1 (0,[])=some (.inl (qgo n.1 n.2.2.2.1)):=by
  refine iz (fun i:Nat=>((i:Int),ca i fun j=>if(j:Int)=n.2.2.2.1 then(1:Int)else 0)) n.1.toNat (bh (by omega)) _ (fun i hi=> ?_) ?_ _ rfl
  ·have hl:=qpo i fun j=>if(j:Int)=n.2.2.2.1 then(1:Int)else 0
   by_cases c:(i:Int)=n.2.2.2.1
   ·simp(disch:=omega)only[yq,rs];rw[aj,qzg,if_pos c]
   ·simp(disch:=omega)only[yq,rs];rw[aj,qzg,if_neg c]
  ·simp(disch:=omega)only[yq,rs];rfl
 unfold qhd que;rw[hL];rfl
end Go.Proofs.Ytokeielgplbdeaa
