/-
  Predict: which nets are few; final markings; finding a marking; keys.
-/
import Derived.Test.YtokeielgplbdeaaZ8W7
set_option linter.all false
namespace Go.Proofs.Ytokeielgplbdeaa
open Go.K Go.M
structure Few (n : cj) (m : List Int) (ts : List af) : Prop where
 places : n.1 ≤ 14
 trans : n.2.1.length ≤ 16
 ins : ∀ t ∈ n.2.1, t.2.1.length ≤ 20
 outs : ∀ t ∈ n.2.1, t.2.2.1.length ≤ 20
 mark : m.length ≤ 20
 times : ts.length ≤ 20
theorem Few.small{n:cj}{m:List Int}{ts:List af}(h:Few n m ts):Small n:=⟨by have:=h.trans;omega,fun t ht=>by have:=h.ins t ht;omega,fun t ht=>by have:=h.outs t ht;omega⟩
def qsh(t:ag):Bool:=decide ((20:Int)<(t.2.1.length:Int))||decide ((20:Int)<(t.2.2.1.length:Int))||decide ((100:Int)<(t.1.size:Int))
theorem jh0(n:cj)(m:List Int)(ts:List af):∃b,qie n m ts=some b∧(b=true→Few n m ts):=by
 have h1:∀t:ag,qap t=some (qsh t):=fun t=>by
  unfold qap qsh;cases decide ((20:Int)<(t.2.1.length:Int))<;>cases decide ((20:Int)<(t.2.2.1.length:Int))<;>rfl
 have hC:n.2.1.length≤100→ce n.2.1=some (n.2.1.any qsh):=fun hl=>by
  have hL:g9 n.2.1 (n.2.1.length:Int) 0=some (qxp (fun i=>(i:Int)) (k9 qsh n.2.1)):=by
   refine su n.2.1 ag.z qsh (fun i=>(i:Int)) (by omega) (fun i hi=> ?_) ?_
   ·simp(disch:=omega)only[cf,h1,rs];rw[al];exact q1o
   ·simp(disch:=omega)only[cf,rs]
  unfold ce d9;rw[hL,i5,qei,i5,qlp]
 unfold qie;by_cases c1:n.1≤14
 ·by_cases c2:(n.2.1.length:Int)≤16
  ·by_cases c3:(m.length:Int)≤20
   ·by_cases c4:(ts.length:Int)≤20
    ·refine⟨!n.2.1.any qsh,by simp(disch:=omega)only[hC (by omega),rs],fun hb=> ?_⟩;rw[Bool.not_eq_true']at hb;have key:∀t∈n.2.1,t.2.1.length≤20∧t.2.2.1.length≤20:=fun t ht=>by
      have:=List.any_eq_false.1 hb t ht;simp only[qsh,Bool.or_eq_true,decide_eq_true_eq,not_or]at this;omega
     exact⟨c1,by omega,fun t ht=>(key t ht).1,fun t ht=>(key t ht).2,by omega,by omega⟩
    ·exact⟨false,by simp(disch:=omega)only[rs],fun h=>by cases h⟩
   ·exact⟨false,by simp(disch:=omega)only[rs],fun h=>by cases h⟩
  ·exact⟨false,by simp(disch:=omega)only[rs],fun h=>by cases h⟩
 ·exact⟨false,by simp(disch:=omega)only[rs],fun h=>by cases h⟩
theorem jcf(a b:List Int)(ha:a.length≤1000000):ub a b=some (decide (a=b)):=by
 unfold ub;by_cases hl:a.length=b.length
 ·rw[qib (by simp[hl])];have hloop:yt a b 0=some (bif (List.range a.length).all (fun i=>decide (a.getD i 0=b.getD i 0))then .inl ()else .inr false):=by
   refine qck (fun i:Nat=>(i:Int)) a.length (bm (by omega)) _ () false ?_ ?_ ?_
   ·intro i hi hp;have hp' :a.getD i 0=b.getD i 0:=of_decide_eq_true hp;simp(disch:=omega)only[lj,rs];rw[al]
   ·intro i hi hp;have hp' :a.getD i 0≠b.getD i 0:=of_decide_eq_false hp;simp(disch:=omega)only[lj,rs]
   ·simp(disch:=omega)only[lj,rs]
  rw[hloop,i5];have hall:(List.range a.length).all (fun i=>decide (a.getD i 0=b.getD i 0))=decide (a=b):=by
   rw[Bool.eq_iff_iff,List.all_eq_true,decide_eq_true_iff];constructor
   ·intro h;refine List.ext_getElem hl fun i h1 h2=> ?_
    have:=of_decide_eq_true (h i (List.mem_range.2 h1));rw[jx a i 0 h1,jx b i 0 h2]at this;exact this
   ·rintro rfl i _;simp
  rw[hall];cases decide (a=b)<;>rfl
 ·have:¬a=b:=fun h=>hl (by rw[h])
  rw[qic (by simp;omega),decide_eq_false this]
def qp7(st:List (List Int))(m:List Int):Int:=q0m (fun x:List Int=>decide (x=m)) st
theorem qtt(s:kj)(m:List Int)(hs:s.1.length≤1000000)(hr:∀x∈s.1,x.length≤1000000):qey s m=some (qp7 s.1 m):=by
 have hL:qmu m s.1 s.2.1 s.2.2.1 0=some (qxp (fun i=>(i:Int)) (k9 (fun x:List Int=>decide (x=m)) s.1)):=by
  refine su s.1 [] (fun x:List Int=>decide (x=m)) (fun i=>(i:Int)) (by omega) (fun i hi=> ?_) ?_
  ·have h1:=jcf (s.1.getD i []) m (hr _ (aw [] hi));simp(disch:=omega)only[qb5,h1,rs];rw[al];cases decide (s.1.getD i []=m)<;>rfl
  ·simp(disch:=omega)only[qb5,rs]
 unfold qey;rw[hL,i5];exact qei _ _
theorem q4f(s:kj)(m:List Int)(hs:s.1.length≤1000000)(hr:∀x∈s.1,x.length≤1000000):qe5 s m=some (qp7 s.1 m):=by
 have h1:∀x∈s.1,zb x m=some (decide (x=m)):=fun x hx=>by
  have:=q8w x m (hr x hx);unfold zb;simp(disch:=omega)only[this,rs]
 have hL:mz s.1 m (s.1.length:Int) 0=some (qxp (fun i=>(i:Int)) (k9 (fun x:List Int=>decide (x=m)) s.1)):=by
  refine su s.1 [] (fun x:List Int=>decide (x=m)) (fun i=>(i:Int)) (by omega) (fun i hi=> ?_) ?_
  ·have h1:=h1 (s.1.getD i []) (aw [] hi);simp(disch:=omega)only[eb,h1,rs];rw[al];cases decide (s.1.getD i []=m)<;>rfl
  ·simp(disch:=omega)only[eb,rs]
 unfold qe5 jo;rw[hL,i5];exact congrArg (fun o=>bnd o fun r1=>some r1) (qei _ _)
def qcq(N:Int)(p:Int):List Int:=bq N.toNat fun i=>if(i:Int)=p then 1 else 0
theorem ja3(N p:Int):(qcq N p).length=N.toNat:=qm3 _ _
theorem ru{n:cj}(hv:b9 n=true):1≤n.1∧n.1≤40∧0≤n.2.2.2.1∧n.2.2.2.1<n.1∧n.2.1.length≤60:=by
 unfold b9 at hv;simp only[Bool.and_eq_true,decide_eq_true_eq]at hv;exact⟨hv.1.1.1.1.1,hv.1.1.1.1.2,hv.2.1,hv.2.2,hv.1.1.1.2⟩
theorem qzo{n:cj}(h:Small n)(hv:b9 n=true):qaw n=some (0,qcq n.1 n.2.2.2.1):=by
 obtain⟨h1,h2,h3,h4,_⟩:=ru hv;have e:=qb9 h;rw[hv]at e;have e2:(List.replicate n.1.toNat (0:Int)).set n.2.2.2.1.toNat 1=qcq n.1 n.2.2.2.1:=by
  rw[qe6,qra];refine zf fun v hv=> ?_
  by_cases c:v=n.2.2.2.1.toNat
  ·rw[if_pos c,if_pos (by omega)]
  ·rw[if_neg c,if_neg (by omega)]
 have hlen:(List.replicate n.1.toNat (0:Int)).length=n.1.toNat:=by simp
 unfold qaw qoa;simp(disch:=omega)only[e,Bool.not_true,rs];rw[e2]
theorem qpp{n:cj}(hN:n.1≤1000):xw n=some (qcq n.1 n.2.2.2.1):=by
 have hL:qpn n.2.2.2.1 n.1 n.2.1 n.2.2.1 n.2.2.2.1 (0,[])=some (.inl (qcq n.1 n.2.2.2.1)):=by
  refine jy (fun i:Nat=>((i:Int),bq i fun j=>if(j:Int)=n.2.2.2.1 then(1:Int)else 0)) n.1.toNat (bm (by omega)) _ (fun i hi=> ?_) ?_ _ rfl
  ·have hl:=qm3 i fun j=>if(j:Int)=n.2.2.2.1 then(1:Int)else 0
   by_cases c:(i:Int)=n.2.2.2.1
   ·simp(disch:=omega)only[uc,rs];rw[al,qub,if_pos c]
   ·simp(disch:=omega)only[uc,rs];rw[al,qub,if_neg c]
  ·simp(disch:=omega)only[uc,rs];rfl
 unfold xw qon;rw[hL];rfl
end Go.Proofs.Ytokeielgplbdeaa
