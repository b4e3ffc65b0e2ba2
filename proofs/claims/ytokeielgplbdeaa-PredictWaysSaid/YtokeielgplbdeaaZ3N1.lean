/-
  Predict: which nets are few; final markings; finding a marking; keys.
-/
import Derived.Test.YtokeielgplbdeaaZ3W7
set_option linter.all false
namespace Go.Proofs.Ytokeielgplbdeaa
open Go.K Go.M
structure Few (n : cx) (m : List Int) (ts : List af) : Prop where
 places : n.1 ≤ 14
 trans : n.2.1.length ≤ 16
 ins : ∀ t ∈ n.2.1, t.2.1.length ≤ 20
 outs : ∀ t ∈ n.2.1, t.2.2.1.length ≤ 20
 mark : m.length ≤ 20
 times : ts.length ≤ 20
theorem Few.small{n:cx}{m:List Int}{ts:List af}(h:Few n m ts):Small n:=⟨by have:=h.trans;omega,fun t ht=>by have:=h.ins t ht;omega,fun t ht=>by have:=h.outs t ht;omega⟩
def qt3(t:ag):Bool:=decide ((20:Int)<(t.2.1.length:Int))||decide ((20:Int)<(t.2.2.1.length:Int))||decide ((100:Int)<(t.1.size:Int))
theorem jji(n:cx)(m:List Int)(ts:List af):∃b,qim n m ts=some b∧(b=true→Few n m ts):=by
 have h1:∀t:ag,z5 t=some (qt3 t):=fun t=>by
  unfold z5 qt3;cases decide ((20:Int)<(t.2.1.length:Int))<;>cases decide ((20:Int)<(t.2.2.1.length:Int))<;>rfl
 have hC:n.2.1.length≤100→cf n.2.1=some (n.2.1.any qt3):=fun hl=>by
  have hL:gq n.2.1 (n.2.1.length:Int) 0=some (q2c (fun i=>(i:Int)) (kl qt3 n.2.1)):=by
   refine uw n.2.1 ag.z qt3 (fun i=>(i:Int)) (by omega) (fun i hi=> ?_) ?_
   ·simp(disch:=omega)only[ch,h1,rs];rw[al];exact q3r
   ·simp(disch:=omega)only[ch,rs]
  unfold cf dx;rw[hL,jf,qil,jf,qso]
 unfold qim;by_cases c1:n.1≤14
 ·by_cases c2:(n.2.1.length:Int)≤16
  ·by_cases c3:(m.length:Int)≤20
   ·by_cases c4:(ts.length:Int)≤20
    ·refine⟨!n.2.1.any qt3,by simp(disch:=omega)only[hC (by omega),rs],fun hb=> ?_⟩;rw[Bool.not_eq_true']at hb;have key:∀t∈n.2.1,t.2.1.length≤20∧t.2.2.1.length≤20:=fun t ht=>by
      have:=List.any_eq_false.1 hb t ht;simp only[qt3,Bool.or_eq_true,decide_eq_true_eq,not_or]at this;omega
     exact⟨c1,by omega,fun t ht=>(key t ht).1,fun t ht=>(key t ht).2,by omega,by omega⟩
    ·exact⟨false,by simp(disch:=omega)only[rs],fun h=>by cases h⟩
   ·exact⟨false,by simp(disch:=omega)only[rs],fun h=>by cases h⟩
  ·exact⟨false,by simp(disch:=omega)only[rs],fun h=>by cases h⟩
 ·exact⟨false,by simp(disch:=omega)only[rs],fun h=>by cases h⟩
theorem jdx(a b:List Int)(ha:a.length≤1000000):ov a b=some (decide (a=b)):=by
 unfold ov;by_cases hl:a.length=b.length
 ·rw[qii (by simp[hl])];have hloop:x8 a b 0=some (bif (List.range a.length).all (fun i=>decide (a.getD i 0=b.getD i 0))then .inl ()else .inr false):=by
   refine qcd (fun i:Nat=>(i:Int)) a.length (bv (by omega)) _ () false ?_ ?_ ?_
   ·intro i hi hp;have hp' :a.getD i 0=b.getD i 0:=of_decide_eq_true hp;simp(disch:=omega)only[iu,rs];rw[al]
   ·intro i hi hp;have hp' :a.getD i 0≠b.getD i 0:=of_decide_eq_false hp;simp(disch:=omega)only[iu,rs]
   ·simp(disch:=omega)only[iu,rs]
  rw[hloop,jf];have hall:(List.range a.length).all (fun i=>decide (a.getD i 0=b.getD i 0))=decide (a=b):=by
   rw[Bool.eq_iff_iff,List.all_eq_true,decide_eq_true_iff];constructor
   ·intro h;refine List.ext_getElem hl fun i h1 h2=> ?_
    have:=of_decide_eq_true (h i (List.mem_range.2 h1));rw[m7 a i 0 h1,m7 b i 0 h2]at this;exact this
   ·rintro rfl i _;simp
  rw[hall];cases decide (a=b)<;>rfl
 ·have:¬a=b:=fun h=>hl (by rw[h])
  rw[qij (by simp;omega),decide_eq_false this]
def qrq(st:List (List Int))(m:List Int):Int:=q2j (fun x:List Int=>decide (x=m)) st
theorem qvs(s:io)(m:List Int)(hs:s.1.length≤1000000)(hr:∀x∈s.1,x.length≤1000000):zg s m=some (qrq s.1 m):=by
 have hL:qnp m s.1 s.2.1 s.2.2.1 0=some (q2c (fun i=>(i:Int)) (kl (fun x:List Int=>decide (x=m)) s.1)):=by
  refine uw s.1 [] (fun x:List Int=>decide (x=m)) (fun i=>(i:Int)) (by omega) (fun i hi=> ?_) ?_
  ·have h1:=jdx (s.1.getD i []) m (hr _ (ba [] hi));simp(disch:=omega)only[v6,h1,rs];rw[al];cases decide (s.1.getD i []=m)<;>rfl
  ·simp(disch:=omega)only[v6,rs]
 unfold zg;rw[hL,jf];exact qil _ _
theorem jdu(s:io)(m:List Int)(hs:s.1.length≤1000000)(hr:∀x∈s.1,x.length≤1000000):qe9 s m=some (qrq s.1 m):=by
 have h1:∀x∈s.1,yl x m=some (decide (x=m)):=fun x hx=>by
  have:=qlu x m (hr x hx);unfold yl;simp(disch:=omega)only[this,rs]
 have hL:mj s.1 m (s.1.length:Int) 0=some (q2c (fun i=>(i:Int)) (kl (fun x:List Int=>decide (x=m)) s.1)):=by
  refine uw s.1 [] (fun x:List Int=>decide (x=m)) (fun i=>(i:Int)) (by omega) (fun i hi=> ?_) ?_
  ·have h1:=h1 (s.1.getD i []) (ba [] hi);simp(disch:=omega)only[dz,h1,rs];rw[al];cases decide (s.1.getD i []=m)<;>rfl
  ·simp(disch:=omega)only[dz,rs]
 unfold qe9 i9;rw[hL,jf];exact congrArg (fun o=>bnd o fun r1=>some r1) (qil _ _)
def q25(N:Int)(p:Int):List Int:=ce N.toNat fun i=>if(i:Int)=p then 1 else 0
theorem qix{n:cx}(hv:ey n=true):1≤n.1∧n.1≤40∧0≤n.2.2.2.1∧n.2.2.2.1<n.1∧n.2.1.length≤60:=by
 unfold ey at hv;simp only[Bool.and_eq_true,decide_eq_true_eq]at hv;exact⟨hv.1.1.1.1.1,hv.1.1.1.1.2,hv.2.1,hv.2.2,hv.1.1.1.2⟩
theorem jam{n:cx}(h:Small n)(hv:ey n=true):qaa n=some (0,q25 n.1 n.2.2.2.1):=by
 obtain⟨h1,h2,h3,h4,_⟩:=qix hv;have e:=qlv h;rw[hv]at e;have e2:(List.replicate n.1.toNat (0:Int)).set n.2.2.2.1.toNat 1=q25 n.1 n.2.2.2.1:=by
  rw[qiu,qsy];refine qd1 fun v hv=> ?_
  by_cases c:v=n.2.2.2.1.toNat
  ·rw[if_pos c,if_pos (by omega)]
  ·rw[if_neg c,if_neg (by omega)]
 have hlen:(List.replicate n.1.toNat (0:Int)).length=n.1.toNat:=by simp
 unfold qaa qpa;simp(disch:=omega)only[e,Bool.not_true,rs];rw[e2]
theorem q3k{n:cx}(hN:n.1≤1000):qal n=some (q25 n.1 n.2.2.2.1):=by
 have hL:qq1 n.2.2.2.1 n.1 n.2.1 n.2.2.1 n.2.2.2.1 (0,[])=some (.inl (q25 n.1 n.2.2.2.1)):=by
  refine jh (fun i:Nat=>((i:Int),ce i fun j=>if(j:Int)=n.2.2.2.1 then(1:Int)else 0)) n.1.toNat (bv (by omega)) _ (fun i hi=> ?_) ?_ _ rfl
  ·have hl:=qsx i fun j=>if(j:Int)=n.2.2.2.1 then(1:Int)else 0
   by_cases c:(i:Int)=n.2.2.2.1
   ·simp(disch:=omega)only[tl,rs];rw[al,q3y,if_pos c]
   ·simp(disch:=omega)only[tl,rs];rw[al,q3y,if_neg c]
  ·simp(disch:=omega)only[tl,rs];rfl
 unfold qal qpz;rw[hL];rfl
end Go.Proofs.Ytokeielgplbdeaa
