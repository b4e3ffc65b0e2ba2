/-
  Predict: which nets are few; final markings; finding a marking; keys.
-/
import Derived.Test.YtokeielgplbdeaaZ5W7
set_option linter.all false
namespace Go.Proofs.Ytokeielgplbdeaa
open Go.K Go.M
structure Few (n : dr) (m : List Int) (ts : List af) : Prop where
 places : n.1 ≤ 14
 trans : n.2.1.length ≤ 16
 ins : ∀ t ∈ n.2.1, t.2.1.length ≤ 20
 outs : ∀ t ∈ n.2.1, t.2.2.1.length ≤ 20
 mark : m.length ≤ 20
 times : ts.length ≤ 20
theorem Few.small{n:dr}{m:List Int}{ts:List af}(h:Few n m ts):Small n:=⟨by have:=h.trans;omega,fun t ht=>by have:=h.ins t ht;omega,fun t ht=>by have:=h.outs t ht;omega⟩
def qpp(t:aj):Bool:=decide ((20:Int)<(t.2.1.length:Int))||decide ((20:Int)<(t.2.2.1.length:Int))||decide ((100:Int)<(t.1.size:Int))
theorem jdv(n:dr)(m:List Int)(ts:List af):∃b,qgu n m ts=some b∧(b=true→Few n m ts):=by
 have h1:∀t:aj,zh t=some (qpp t):=fun t=>by
  unfold zh qpp;cases decide ((20:Int)<(t.2.1.length:Int))<;>cases decide ((20:Int)<(t.2.2.1.length:Int))<;>rfl
 have hC:n.2.1.length≤100→cj n.2.1=some (n.2.1.any qpp):=fun hl=>by
  have hL:g8 n.2.1 (n.2.1.length:Int) 0=some (qwu (fun i=>(i:Int)) (kw qpp n.2.1)):=by
   refine uj n.2.1 aj.z qpp (fun i=>(i:Int)) (by omega) (fun i hi=> ?_) ?_
   ·simp(disch:=omega)only[ck,h1,rs];rw[aq];exact qx4
   ·simp(disch:=omega)only[ck,rs]
  unfold cj eb;rw[hL,jl,qgt,jl,qn9]
 unfold qgu;by_cases c1:n.1≤14
 ·by_cases c2:(n.2.1.length:Int)≤16
  ·by_cases c3:(m.length:Int)≤20
   ·by_cases c4:(ts.length:Int)≤20
    ·refine⟨!n.2.1.any qpp,by simp(disch:=omega)only[hC (by omega),rs],fun hb=> ?_⟩;rw[Bool.not_eq_true']at hb;have key:∀t∈n.2.1,t.2.1.length≤20∧t.2.2.1.length≤20:=fun t ht=>by
      have:=List.any_eq_false.1 hb t ht;simp only[qpp,Bool.or_eq_true,decide_eq_true_eq,not_or]at this;omega
     exact⟨c1,by omega,fun t ht=>(key t ht).1,fun t ht=>(key t ht).2,by omega,by omega⟩
    ·exact⟨false,by simp(disch:=omega)only[rs],fun h=>by cases h⟩
   ·exact⟨false,by simp(disch:=omega)only[rs],fun h=>by cases h⟩
  ·exact⟨false,by simp(disch:=omega)only[rs],fun h=>by cases h⟩
 ·exact⟨false,by simp(disch:=omega)only[rs],fun h=>by cases h⟩
theorem q77(a b:List Int)(ha:a.length≤1000000):ta a b=some (decide (a=b)):=by
 unfold ta;by_cases hl:a.length=b.length
 ·rw[qgq (by simp[hl])];have hloop:xr a b 0=some (bif (List.range a.length).all (fun i=>decide (a.getD i 0=b.getD i 0))then .inl ()else .inr false):=by
   refine qbg (fun i:Nat=>(i:Int)) a.length (bz (by omega)) _ () false ?_ ?_ ?_
   ·intro i hi hp;have hp' :a.getD i 0=b.getD i 0:=of_decide_eq_true hp;simp(disch:=omega)only[k6,rs];rw[aq]
   ·intro i hi hp;have hp' :a.getD i 0≠b.getD i 0:=of_decide_eq_false hp;simp(disch:=omega)only[k6,rs]
   ·simp(disch:=omega)only[k6,rs]
  rw[hloop,jl];have hall:(List.range a.length).all (fun i=>decide (a.getD i 0=b.getD i 0))=decide (a=b):=by
   rw[Bool.eq_iff_iff,List.all_eq_true,decide_eq_true_iff];constructor
   ·intro h;refine List.ext_getElem hl fun i h1 h2=> ?_
    have:=of_decide_eq_true (h i (List.mem_range.2 h1));rw[m6 a i 0 h1,m6 b i 0 h2]at this;exact this
   ·rintro rfl i _;simp
  rw[hall];cases decide (a=b)<;>rfl
 ·have:¬a=b:=fun h=>hl (by rw[h])
  rw[qgr (by simp;omega),decide_eq_false this]
def qnr(st:List (List Int))(m:List Int):Int:=qw1 (fun x:List Int=>decide (x=m)) st
theorem qqw(s:kb)(m:List Int)(hs:s.1.length≤1000000)(hr:∀x∈s.1,x.length≤1000000):qdr s m=some (qnr s.1 m):=by
 have hL:qkx m s.1 s.2.1 s.2.2.1 0=some (qwu (fun i=>(i:Int)) (kw (fun x:List Int=>decide (x=m)) s.1)):=by
  refine uj s.1 [] (fun x:List Int=>decide (x=m)) (fun i=>(i:Int)) (by omega) (fun i hi=> ?_) ?_
  ·have h1:=q77 (s.1.getD i []) m (hr _ (ba [] hi));simp(disch:=omega)only[qa4,h1,rs];rw[aq];cases decide (s.1.getD i []=m)<;>rfl
  ·simp(disch:=omega)only[qa4,rs]
 unfold qdr;rw[hL,jl];exact qgt _ _
theorem q74(s:kb)(m:List Int)(hs:s.1.length≤1000000)(hr:∀x∈s.1,x.length≤1000000):qdx s m=some (qnr s.1 m):=by
 have h1:∀x∈s.1,x8 x m=some (decide (x=m)):=fun x hx=>by
  have:=q4u x m (hr x hx);unfold x8;simp(disch:=omega)only[this,rs]
 have hL:mg s.1 m (s.1.length:Int) 0=some (qwu (fun i=>(i:Int)) (kw (fun x:List Int=>decide (x=m)) s.1)):=by
  refine uj s.1 [] (fun x:List Int=>decide (x=m)) (fun i=>(i:Int)) (by omega) (fun i hi=> ?_) ?_
  ·have h1:=h1 (s.1.getD i []) (ba [] hi);simp(disch:=omega)only[ed,h1,rs];rw[aq];cases decide (s.1.getD i []=m)<;>rfl
  ·simp(disch:=omega)only[ed,rs]
 unfold qdx jf;rw[hL,jl];exact congrArg (fun o=>bnd o fun r1=>some r1) (qgt _ _)
def qxn(N:Int)(p:Int):List Int:=ch N.toNat fun i=>if(i:Int)=p then 1 else 0
theorem qg3{n:dr}(hv:em n=true):1≤n.1∧n.1≤40∧0≤n.2.2.2.1∧n.2.2.2.1<n.1∧n.2.1.length≤60:=by
 unfold em at hv;simp only[Bool.and_eq_true,decide_eq_true_eq]at hv;exact⟨hv.1.1.1.1.1,hv.1.1.1.1.2,hv.2.1,hv.2.2,hv.1.1.1.2⟩
theorem q4v{n:dr}(h:Small n)(hv:em n=true):zn n=some (0,qxn n.1 n.2.2.2.1):=by
 obtain⟨h1,h2,h3,h4,_⟩:=qg3 hv;have e:=qi9 h;rw[hv]at e;have e2:(List.replicate n.1.toNat (0:Int)).set n.2.2.2.1.toNat 1=qxn n.1 n.2.2.2.1:=by
  rw[qg0,qok];refine qcr fun v hv=> ?_
  by_cases c:v=n.2.2.2.1.toNat
  ·rw[if_pos c,if_pos (by omega)]
  ·rw[if_neg c,if_neg (by omega)]
 have hlen:(List.replicate n.1.toNat (0:Int)).length=n.1.toNat:=by simp
 unfold zn ql8;simp(disch:=omega)only[e,Bool.not_true,rs];rw[e2]
theorem qxx{n:dr}(hN:n.1≤1000):qgd n=some (qxn n.1 n.2.2.2.1):=by
 have hL:qm9 n.2.2.2.1 n.1 n.2.1 n.2.2.1 n.2.2.2.1 (0,[])=some (.inl (qxn n.1 n.2.2.2.1)):=by
  refine jo (fun i:Nat=>((i:Int),ch i fun j=>if(j:Int)=n.2.2.2.1 then(1:Int)else 0)) n.1.toNat (bz (by omega)) _ (fun i hi=> ?_) ?_ _ rfl
  ·have hl:=qoj i fun j=>if(j:Int)=n.2.2.2.1 then(1:Int)else 0
   by_cases c:(i:Int)=n.2.2.2.1
   ·simp(disch:=omega)only[x7,rs];rw[aq,qyb,if_pos c]
   ·simp(disch:=omega)only[x7,rs];rw[aq,qyb,if_neg c]
  ·simp(disch:=omega)only[x7,rs];rfl
 unfold qgd qtf;rw[hL];rfl
end Go.Proofs.Ytokeielgplbdeaa
