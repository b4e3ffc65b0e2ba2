/-
  Freechoice: free-choice nets, lists with a common number.
-/
import Derived.Test.YtclbndfjhjladaaGreatZ7G1
set_option linter.all false
namespace Go.Proofs.YtclbndfjhjladaaGreat
open Go.K Go.M
theorem jth(a b:List Int)(ha:a.length≤1000000):oq a b=some (decide (a=b)):=by
 unfold oq;by_cases hl:a.length=b.length
 ·rw[q7j (by simp[hl])];have hloop:qmi a b (a.length:Int) 0=some (bif (List.range a.length).all (fun i=>decide (a.getD i 0=b.getD i 0))then .inl ()else .inr false):=by
   refine qlc (fun i:Nat=>(i:Int)) a.length (fg (by omega)) _ () false ?_ ?_ ?_
   ·intro i hi hp;have hp' :a.getD i 0=b.getD i 0:=of_decide_eq_true hp;simp(disch:=omega)only[la,rs];rw[ar]
   ·intro i hi hp;have hp' :a.getD i 0≠b.getD i 0:=of_decide_eq_false hp;simp(disch:=omega)only[la,rs]
   ·simp(disch:=omega)only[la,rs]
  rw[hloop,ao];have hall:(List.range a.length).all (fun i=>decide (a.getD i 0=b.getD i 0))=decide (a=b):=by
   rw[Bool.eq_iff_iff,List.all_eq_true,decide_eq_true_iff];constructor
   ·intro h;refine List.ext_getElem hl fun i h1 h2=> ?_
    have:=of_decide_eq_true (h i (List.mem_range.2 h1));rw[qla a i 0 h1,qla b i 0 h2]at this;exact this
   ·rintro rfl i _;simp
  rw[hall];cases decide (a=b)<;>rfl
 ·have:¬a=b:=fun h=>hl (by rw[h])
  rw[q7k (by simp;omega),decide_eq_false this]
def j5m(a b:List Int):Bool:=a.any (u7 b)
def frB(a b:List Int):Bool:= !j5m a b||decide (a=b)
def jp1(ts:List ab):Bool:=(List.range ts.length).all fun i=>(List.range i).all fun k=>frB (ts.getD i ab.z).2.1 (ts.getD k ab.z).2.1
theorem jx6(a:List Int)(t:ab)(ha:a.length≤1000000)(ht:t.2.1.length≤1000000):ja a t=some (j5m a t.2.1):=by
 have h1:∀x,xm x t=some (u7 t.2.1 x):=fun x=>by
  unfold xm;simp(disch:=omega)only[rs];rw[qip _ ht];rfl
 have hL:qa3 a t (a.length:Int) 0=some (q38 (fun i=>(i:Int)) (zm (u7 t.2.1) a)):=by
  refine kq a 0 (u7 t.2.1) (fun i=>(i:Int)) (by omega) (fun i hi=> ?_) ?_
  ·simp(disch:=omega)only[je,h1,rs];rw[ar];exact q7b
  ·simp(disch:=omega)only[je,rs]
 unfold ja qr;rw[hL,ao,qbc,ao,qfa];rfl
theorem jli{b:Bool}:(lk (bif b then(.inl ():Unit⊕Bool)else .inr false) (fun _=>some true) fun r=>some r)=some b:=by cases b<;>rfl
section
variable {ts : List ab} (hl : ts.length ≤ 100) (hi' : ∀ t ∈ ts, t.2.1.length ≤ 60)
include hl hi'
theorem jul{i:Nat}(hi:i<ts.length)(a b c d e:Int)(x1:ByteArray)(x3:List Int):
  qte ts a b (ts.take i) ((ts.take i).length:Int) c ts d e x1 (ts.getD i ab.z).2.1 x3 0=some (bif (List.range i).all (fun k=>frB (ts.getD i ab.z).2.1 (ts.getD k ab.z).2.1)then .inl ()else .inr false):=by
 have hli:=hi' _ (bm ab.z hi);have hlen:(ts.take i).length=i:=by rw[List.length_take];omega
 have hget:∀k,k<i→(ts.take i).getD k ab.z=ts.getD k ab.z:=fun k hk=>by
  rw[List.getD_eq_getElem?_getD,List.getD_eq_getElem?_getD,List.getElem?_take,if_pos hk]
 rw[hlen];refine qlc (fun k:Nat=>(k:Int)) i (fg (by omega)) (fun k=>frB (ts.getD i ab.z).2.1 (ts.getD k ab.z).2.1) () false ?_ ?_ ?_
 ·intro k hk hp;have hlk:=hi' _ (bm ab.z (show k<ts.length by omega));simp(disch:=omega)only[oj,hlen,hget k hk,rs];rw[jx6 _ _ (by omega) (by omega),jth _ _ (by omega),ar];unfold frB at hp;cases h1:j5m (ts.getD i ab.z).2.1 (ts.getD k ab.z).2.1 with
  |false=>rfl
  |true=>rw[h1]at hp;simp only[Bool.not_true,Bool.false_or]at hp;simp only[ao,hp];rfl
 ·intro k hk hp;have hlk:=hi' _ (bm ab.z (show k<ts.length by omega));simp(disch:=omega)only[oj,hlen,hget k hk,rs];rw[jx6 _ _ (by omega) (by omega),jth _ _ (by omega)];unfold frB at hp;simp only[Bool.or_eq_false_iff,Bool.not_eq_false']at hp;simp only[ao,hp.1,hp.2];rfl
 ·simp(disch:=omega)only[oj,rs]
theorem j0u(a b c:Int):ju (a,ts,b,c,())=some (jp1 ts):=by
 have hL:qtf ts (ts.length:Int) a ts b c 0=some (bif (List.range ts.length).all (fun i=>(List.range i).all fun k=>frB (ts.getD i ab.z).2.1 (ts.getD k ab.z).2.1)then .inl ()else .inr false):=by
  refine qlc (fun k:Nat=>(k:Int)) ts.length (fg (by omega)) (fun i=>(List.range i).all fun k=>frB (ts.getD i ab.z).2.1 (ts.getD k ab.z).2.1) () false ?_ ?_ ?_
  ·intro i hi hp;simp(disch:=omega)only[ol,rs];rw[jul hl hi' hi,hp,ar];rfl
  ·intro i hi hp;simp(disch:=omega)only[ol,rs];rw[jul hl hi' hi,hp];rfl
  ·simp(disch:=omega)only[ol,rs]
 unfold ju jp1;simp only;rw[hL,ao,jli]
end
end Go.Proofs.YtclbndfjhjladaaGreat
