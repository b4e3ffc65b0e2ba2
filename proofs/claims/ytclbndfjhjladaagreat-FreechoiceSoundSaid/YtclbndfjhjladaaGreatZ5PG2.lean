/-
  Freechoice: free-choice nets, lists with a common number.
-/
import Derived.Test.YtclbndfjhjladaaGreatZ5PG6
set_option linter.all false
namespace Go.Proofs.YtclbndfjhjladaaGreat
open Go.K Go.M
theorem q4c(a b:List Int)(ha:a.length≤1000000):gg a b=some (decide (a=b)):=by
 unfold gg;by_cases hl:a.length=b.length
 ·rw[qq2 (by simp[hl])];have hloop:qan a b (a.length:Int) 0=some (bif (List.range a.length).all (fun i=>decide (a.getD i 0=b.getD i 0))then .inl ()else .inr false):=by
   refine rb (fun i:Nat=>(i:Int)) a.length (bc (by omega)) _ () false ?_ ?_ ?_
   ·intro i hi hp;have hp' :a.getD i 0=b.getD i 0:=of_decide_eq_true hp;simp(disch:=omega)only[gh,rs];rw[ah]
   ·intro i hi hp;have hp' :a.getD i 0≠b.getD i 0:=of_decide_eq_false hp;simp(disch:=omega)only[gh,rs]
   ·simp(disch:=omega)only[gh,rs]
  rw[hloop,ax];have hall:(List.range a.length).all (fun i=>decide (a.getD i 0=b.getD i 0))=decide (a=b):=by
   rw[Bool.eq_iff_iff,List.all_eq_true,decide_eq_true_iff];constructor
   ·intro h;refine List.ext_getElem hl fun i h1 h2=> ?_
    have:=of_decide_eq_true (h i (List.mem_range.2 h1));rw[zf a i 0 h1,zf b i 0 h2]at this;exact this
   ·rintro rfl i _;simp
  rw[hall];cases decide (a=b)<;>rfl
 ·have:¬a=b:=fun h=>hl (by rw[h])
  rw[qq3 (by simp;omega),decide_eq_false this]
def jow(a b:List Int):Bool:=a.any (dj b)
def frB(a b:List Int):Bool:= !jow a b||decide (a=b)
def qm1(ts:List ae):Bool:=(List.range ts.length).all fun i=>(List.range i).all fun k=>frB (ts.getD i ae.z).2.1 (ts.getD k ae.z).2.1
theorem ji3(a:List Int)(t:ae)(ha:a.length≤1000000)(ht:t.2.1.length≤1000000):eo a t=some (jow a t.2.1):=by
 have h1:∀x,ns x t=some (dj t.2.1 x):=fun x=>by
  unfold ns;simp(disch:=omega)only[rs];rw[o8 _ ht];rfl
 have hL:pq a t (a.length:Int) 0=some (q4y (fun i=>(i:Int)) (vx (dj t.2.1) a)):=by
  refine sq a 0 (dj t.2.1) (fun i=>(i:Int)) (by omega) (fun i hi=> ?_) ?_
  ·simp(disch:=omega)only[ey,h1,rs];rw[ah];exact qqx
  ·simp(disch:=omega)only[ey,rs]
 unfold eo ks;rw[hL,ax,qe8,ax,qhk];rfl
theorem qoy{b:Bool}:(lk (bif b then(.inl ():Unit⊕Bool)else .inr false) (fun _=>some true) fun r=>some r)=some b:=by cases b<;>rfl
section
variable {ts : List ae} (hl : ts.length ≤ 100) (hi' : ∀ t ∈ ts, t.2.1.length ≤ 60)
include hl hi'
theorem je4{i:Nat}(hi:i<ts.length)(a b c d e:Int)(x1:ByteArray)(x3:List Int):
  qes ts a b (ts.take i) ((ts.take i).length:Int) c ts d e x1 (ts.getD i ae.z).2.1 x3 0=some (bif (List.range i).all (fun k=>frB (ts.getD i ae.z).2.1 (ts.getD k ae.z).2.1)then .inl ()else .inr false):=by
 have hli:=hi' _ (au ae.z hi);have hlen:(ts.take i).length=i:=by rw[List.length_take];omega
 have hget:∀k,k<i→(ts.take i).getD k ae.z=ts.getD k ae.z:=fun k hk=>by
  rw[List.getD_eq_getElem?_getD,List.getD_eq_getElem?_getD,List.getElem?_take,if_pos hk]
 rw[hlen];refine rb (fun k:Nat=>(k:Int)) i (bc (by omega)) (fun k=>frB (ts.getD i ae.z).2.1 (ts.getD k ae.z).2.1) () false ?_ ?_ ?_
 ·intro k hk hp;have hlk:=hi' _ (au ae.z (show k<ts.length by omega));simp(disch:=omega)only[jk,hlen,hget k hk,rs];rw[ji3 _ _ (by omega) (by omega),q4c _ _ (by omega),ah];unfold frB at hp;cases h1:jow (ts.getD i ae.z).2.1 (ts.getD k ae.z).2.1 with
  |false=>rfl
  |true=>rw[h1]at hp;simp only[Bool.not_true,Bool.false_or]at hp;simp only[ax,hp];rfl
 ·intro k hk hp;have hlk:=hi' _ (au ae.z (show k<ts.length by omega));simp(disch:=omega)only[jk,hlen,hget k hk,rs];rw[ji3 _ _ (by omega) (by omega),q4c _ _ (by omega)];unfold frB at hp;simp only[Bool.or_eq_false_iff,Bool.not_eq_false']at hp;simp only[ax,hp.1,hp.2];rfl
 ·simp(disch:=omega)only[jk,rs]
theorem jmh(a b c:Int):gu (a,ts,b,c,())=some (qm1 ts):=by
 have hL:qet ts (ts.length:Int) a ts b c 0=some (bif (List.range ts.length).all (fun i=>(List.range i).all fun k=>frB (ts.getD i ae.z).2.1 (ts.getD k ae.z).2.1)then .inl ()else .inr false):=by
  refine rb (fun k:Nat=>(k:Int)) ts.length (bc (by omega)) (fun i=>(List.range i).all fun k=>frB (ts.getD i ae.z).2.1 (ts.getD k ae.z).2.1) () false ?_ ?_ ?_
  ·intro i hi hp;simp(disch:=omega)only[jl,rs];rw[je4 hl hi' hi,hp,ah];rfl
  ·intro i hi hp;simp(disch:=omega)only[jl,rs];rw[je4 hl hi' hi,hp];rfl
  ·simp(disch:=omega)only[jl,rs]
 unfold gu qm1;simp only;rw[hL,ax,qoy]
end
end Go.Proofs.YtclbndfjhjladaaGreat
