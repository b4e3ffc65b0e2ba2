/-
  Predict: which nets are few; final markings; finding a marking; keys.
-/
import Derived.Test.YtokeielgplbdeaaZ6W7
set_option linter.all false
namespace Go.Proofs.Ytokeielgplbdeaa
open Go.K Go.M
structure Few (n : c9) (m : List Int) (ts : List af) : Prop where
 places : n.1 ≤ 14
 trans : n.2.1.length ≤ 16
 ins : ∀ t ∈ n.2.1, t.2.1.length ≤ 20
 outs : ∀ t ∈ n.2.1, t.2.2.1.length ≤ 20
 mark : m.length ≤ 20
 times : ts.length ≤ 20
theorem Few.small{n:c9}{m:List Int}{ts:List af}(h:Few n m ts):Small n:=⟨by have:=h.trans;omega,fun t ht=>by have:=h.ins t ht;omega,fun t ht=>by have:=h.outs t ht;omega⟩
def qrk(t:ai):Bool:=decide ((20:Int)<(t.2.1.length:Int))||decide ((20:Int)<(t.2.2.1.length:Int))||decide ((100:Int)<(t.1.size:Int))
theorem jfr(n:c9)(m:List Int)(ts:List af):∃b,qb7 n m ts=some b∧(b=true→Few n m ts):=by
 have h1:∀t:ai,z8 t=some (qrk t):=fun t=>by
  unfold z8 qrk;cases decide ((20:Int)<(t.2.1.length:Int))<;>cases decide ((20:Int)<(t.2.2.1.length:Int))<;>rfl
 have hC:n.2.1.length≤100→cf n.2.1=some (n.2.1.any qrk):=fun hl=>by
  have hL:gv n.2.1 (n.2.1.length:Int) 0=some (qv2 (fun i=>(i:Int)) (km qrk n.2.1)):=by
   refine rv n.2.1 ai.z qrk (fun i=>(i:Int)) (by omega) (fun i hi=> ?_) ?_
   ·simp(disch:=omega)only[ch,h1,rs];rw[aj];exact qz0
   ·simp(disch:=omega)only[ch,rs]
  unfold cf dy;rw[hL,iz,qee,iz,qle]
 unfold qb7;by_cases c1:n.1≤14
 ·by_cases c2:(n.2.1.length:Int)≤16
  ·by_cases c3:(m.length:Int)≤20
   ·by_cases c4:(ts.length:Int)≤20
    ·refine⟨!n.2.1.any qrk,by simp(disch:=omega)only[hC (by omega),rs],fun hb=> ?_⟩;rw[Bool.not_eq_true']at hb;have key:∀t∈n.2.1,t.2.1.length≤20∧t.2.2.1.length≤20:=fun t ht=>by
      have:=List.any_eq_false.1 hb t ht;simp only[qrk,Bool.or_eq_true,decide_eq_true_eq,not_or]at this;omega
     exact⟨c1,by omega,fun t ht=>(key t ht).1,fun t ht=>(key t ht).2,by omega,by omega⟩
    ·exact⟨false,by simp(disch:=omega)only[rs],fun h=>by cases h⟩
   ·exact⟨false,by simp(disch:=omega)only[rs],fun h=>by cases h⟩
  ·exact⟨false,by simp(disch:=omega)only[rs],fun h=>by cases h⟩
 ·exact⟨false,by simp(disch:=omega)only[rs],fun h=>by cases h⟩
theorem q95(a b:List Int)(ha:a.length≤1000000):tw a b=some (decide (a=b)):=by
 unfold tw;by_cases hl:a.length=b.length
 ·rw[qh1 (by simp[hl])];have hloop:yf a b 0=some (bif (List.range a.length).all (fun i=>decide (a.getD i 0=b.getD i 0))then .inl ()else .inr false):=by
   refine qb8 (fun i:Nat=>(i:Int)) a.length (bm (by omega)) _ () false ?_ ?_ ?_
   ·intro i hi hp;have hp' :a.getD i 0=b.getD i 0:=of_decide_eq_true hp;simp(disch:=omega)only[k9,rs];rw[aj]
   ·intro i hi hp;have hp' :a.getD i 0≠b.getD i 0:=of_decide_eq_false hp;simp(disch:=omega)only[k9,rs]
   ·simp(disch:=omega)only[k9,rs]
  rw[hloop,iz];have hall:(List.range a.length).all (fun i=>decide (a.getD i 0=b.getD i 0))=decide (a=b):=by
   rw[Bool.eq_iff_iff,List.all_eq_true,decide_eq_true_iff];constructor
   ·intro h;refine List.ext_getElem hl fun i h1 h2=> ?_
    have:=of_decide_eq_true (h i (List.mem_range.2 h1));rw[ne a i 0 h1,ne b i 0 h2]at this;exact this
   ·rintro rfl i _;simp
  rw[hall];cases decide (a=b)<;>rfl
 ·have:¬a=b:=fun h=>hl (by rw[h])
  rw[qh2 (by simp;omega),decide_eq_false this]
def qpg(st:List (List Int))(m:List Int):Int:=qyx (fun x:List Int=>decide (x=m)) st
theorem qsr(s:j6)(m:List Int)(hs:s.1.length≤1000000)(hr:∀x∈s.1,x.length≤1000000):qey s m=some (qpg s.1 m):=by
 have hL:qmk m s.1 s.2.1 s.2.2.1 0=some (qv2 (fun i=>(i:Int)) (km (fun x:List Int=>decide (x=m)) s.1)):=by
  refine rv s.1 [] (fun x:List Int=>decide (x=m)) (fun i=>(i:Int)) (by omega) (fun i hi=> ?_) ?_
  ·have h1:=q95 (s.1.getD i []) m (hr _ (az [] hi));simp(disch:=omega)only[qbt,h1,rs];rw[aj];cases decide (s.1.getD i []=m)<;>rfl
  ·simp(disch:=omega)only[qbt,rs]
 unfold qey;rw[hL,iz];exact qee _ _
theorem q93(s:j6)(m:List Int)(hs:s.1.length≤1000000)(hr:∀x∈s.1,x.length≤1000000):qe5 s m=some (qpg s.1 m):=by
 have h1:∀x∈s.1,yu x m=some (decide (x=m)):=fun x hx=>by
  have:=qx5 x m (hr x hx);unfold yu;simp(disch:=omega)only[this,rs]
 have hL:mt s.1 m (s.1.length:Int) 0=some (qv2 (fun i=>(i:Int)) (km (fun x:List Int=>decide (x=m)) s.1)):=by
  refine rv s.1 [] (fun x:List Int=>decide (x=m)) (fun i=>(i:Int)) (by omega) (fun i hi=> ?_) ?_
  ·have h1:=h1 (s.1.getD i []) (az [] hi);simp(disch:=omega)only[d9,h1,rs];rw[aj];cases decide (s.1.getD i []=m)<;>rfl
  ·simp(disch:=omega)only[d9,rs]
 unfold qe5 ji;rw[hL,iz];exact congrArg (fun o=>bnd o fun r1=>some r1) (qee _ _)
def qw0(N:Int)(p:Int):List Int:=ca N.toNat fun i=>if(i:Int)=p then 1 else 0
theorem qig{n:c9}(hv:de n=true):1≤n.1∧n.1≤40∧0≤n.2.2.2.1∧n.2.2.2.1<n.1∧n.2.1.length≤60:=by
 unfold de at hv;simp only[Bool.and_eq_true,decide_eq_true_eq]at hv;exact⟨hv.1.1.1.1.1,hv.1.1.1.1.2,hv.2.1,hv.2.2,hv.1.1.1.2⟩
theorem qx6{n:c9}(h:Small n)(hv:de n=true):xc n=some (0,qw0 n.1 n.2.2.2.1):=by
 obtain⟨h1,h2,h3,h4,_⟩:=qig hv;have e:=qgg h;rw[hv]at e;have e2:(List.replicate n.1.toNat (0:Int)).set n.2.2.2.1.toNat 1=qw0 n.1 n.2.2.2.1:=by
  rw[qid,qp8];refine qdv fun v hv=> ?_
  by_cases c:v=n.2.2.2.1.toNat
  ·rw[if_pos c,if_pos (by omega)]
  ·rw[if_neg c,if_neg (by omega)]
 have hlen:(List.replicate n.1.toNat (0:Int)).length=n.1.toNat:=by simp
 unfold xc qnp;simp(disch:=omega)only[e,Bool.not_true,rs];rw[e2]
theorem qzs{n:c9}(hN:n.1≤1000):qhl n=some (qw0 n.1 n.2.2.2.1):=by
 have hL:qox n.2.2.2.1 n.1 n.2.1 n.2.2.1 n.2.2.2.1 (0,[])=some (.inl (qw0 n.1 n.2.2.2.1)):=by
  refine iw (fun i:Nat=>((i:Int),ca i fun j=>if(j:Int)=n.2.2.2.1 then(1:Int)else 0)) n.1.toNat (bm (by omega)) _ (fun i hi=> ?_) ?_ _ rfl
  ·have hl:=qp7 i fun j=>if(j:Int)=n.2.2.2.1 then(1:Int)else 0
   by_cases c:(i:Int)=n.2.2.2.1
   ·simp(disch:=omega)only[yt,rs];rw[aj,qz8,if_pos c]
   ·simp(disch:=omega)only[yt,rs];rw[aj,qz8,if_neg c]
  ·simp(disch:=omega)only[yt,rs];rfl
 unfold qhl qu4;rw[hL];rfl
end Go.Proofs.Ytokeielgplbdeaa
