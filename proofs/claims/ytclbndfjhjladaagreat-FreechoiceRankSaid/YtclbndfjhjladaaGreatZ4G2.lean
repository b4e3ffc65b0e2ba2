/-
  Freechoice: free-choice nets, lists with a common number.
-/
import Derived.Test.YtclbndfjhjladaaGreatZ4G1
set_option linter.all false
namespace Go.Proofs.YtclbndfjhjladaaGreat
open Go.K Go.M
theorem jl2(a b:List Int)(ha:a.length≤1000000):iu a b=some (decide (a=b)):=by
 unfold iu;by_cases hl:a.length=b.length
 ·rw[qt9 (by simp[hl])];have hloop:qa4 a b (a.length:Int) 0=some (bif (List.range a.length).all (fun i=>decide (a.getD i 0=b.getD i 0))then .inl ()else .inr false):=by
   refine fj (fun i:Nat=>(i:Int)) a.length (aw (by omega)) _ () false ?_ ?_ ?_
   ·intro i hi hp;have hp' :a.getD i 0=b.getD i 0:=of_decide_eq_true hp;simp(disch:=omega)only[fq,rs];rw[ag]
   ·intro i hi hp;have hp' :a.getD i 0≠b.getD i 0:=of_decide_eq_false hp;simp(disch:=omega)only[fq,rs]
   ·simp(disch:=omega)only[fq,rs]
  rw[hloop,au];have hall:(List.range a.length).all (fun i=>decide (a.getD i 0=b.getD i 0))=decide (a=b):=by
   rw[Bool.eq_iff_iff,List.all_eq_true,decide_eq_true_iff];constructor
   ·intro h;refine List.ext_getElem hl fun i h1 h2=> ?_
    have:=of_decide_eq_true (h i (List.mem_range.2 h1));rw[sm a i 0 h1,sm b i 0 h2]at this;exact this
   ·rintro rfl i _;simp
  rw[hall];cases decide (a=b)<;>rfl
 ·have:¬a=b:=fun h=>hl (by rw[h])
  rw[qua (by simp;omega),decide_eq_false this]
def jpw(a b:List Int):Bool:=a.any (cn b)
def frB(a b:List Int):Bool:= !jpw a b||decide (a=b)
def qk2(ts:List af):Bool:=(List.range ts.length).all fun i=>(List.range i).all fun k=>frB (ts.getD i af.z).2.1 (ts.getD k af.z).2.1
theorem jrl(a:List Int)(t:af)(ha:a.length≤1000000)(ht:t.2.1.length≤1000000):d5 a t=some (jpw a t.2.1):=by
 have h1:∀x,ng x t=some (cn t.2.1 x):=fun x=>by
  unfold ng;simp(disch:=omega)only[rs];rw[om _ ht];rfl
 have hL:pb a t (a.length:Int) 0=some (jfr (fun i=>(i:Int)) (qba (cn t.2.1) a)):=by
  refine ua a 0 (cn t.2.1) (fun i=>(i:Int)) (by omega) (fun i hi=> ?_) ?_
  ·simp(disch:=omega)only[d8,h1,rs];rw[ag];exact qm0
  ·simp(disch:=omega)only[d8,rs]
 unfold d5 jt;rw[hL,au,qis,au,qir];rfl
theorem jha(a b:List Int)(ha:a.length≤1000000)(hb:b.length≤1000000):qgn a b=some (jpw a b):=by
 have hL:qtt a b 0=some (bif a.any (cn b)then .inr true else .inl ()):=by
  refine f7 a 0 (cn b) true (by omega) (fun i hi=> ?_) ?_
  ·simp(disch:=omega)only[xg,rs];rw[rx _ hb,ag,au];exact qm0
  ·simp(disch:=omega)only[xg,rs]
 unfold qgn jpw;rw[hL];cases a.any (cn b)<;>rfl
theorem qgy{b:Bool}:(lk (bif b then(.inl ():Unit⊕Bool)else .inr false) (fun _=>some true) fun r=>some r)=some b:=by cases b<;>rfl
section
variable {ts : List af} (hl : ts.length ≤ 100) (hi' : ∀ t ∈ ts, t.2.1.length ≤ 60)
include hl hi'
theorem jna{i:Nat}(hi:i<ts.length)(a b c d e:Int)(x1:ByteArray)(x3:List Int):
  qfu ts a b (ts.take i) ((ts.take i).length:Int) c ts d e x1 (ts.getD i af.z).2.1 x3 0=some (bif (List.range i).all (fun k=>frB (ts.getD i af.z).2.1 (ts.getD k af.z).2.1)then .inl ()else .inr false):=by
 have hli:=hi' _ (ao af.z hi);have hlen:(ts.take i).length=i:=by rw[List.length_take];omega
 have hget:∀k,k<i→(ts.take i).getD k af.z=ts.getD k af.z:=fun k hk=>by
  rw[List.getD_eq_getElem?_getD,List.getD_eq_getElem?_getD,List.getElem?_take,if_pos hk]
 rw[hlen];refine fj (fun k:Nat=>(k:Int)) i (aw (by omega)) (fun k=>frB (ts.getD i af.z).2.1 (ts.getD k af.z).2.1) () false ?_ ?_ ?_
 ·intro k hk hp;have hlk:=hi' _ (ao af.z (show k<ts.length by omega));simp(disch:=omega)only[im,hlen,hget k hk,rs];rw[jrl _ _ (by omega) (by omega),jl2 _ _ (by omega),ag];unfold frB at hp;cases h1:jpw (ts.getD i af.z).2.1 (ts.getD k af.z).2.1 with
  |false=>rfl
  |true=>rw[h1]at hp;simp only[Bool.not_true,Bool.false_or]at hp;simp only[au,hp];rfl
 ·intro k hk hp;have hlk:=hi' _ (ao af.z (show k<ts.length by omega));simp(disch:=omega)only[im,hlen,hget k hk,rs];rw[jrl _ _ (by omega) (by omega),jl2 _ _ (by omega)];unfold frB at hp;simp only[Bool.or_eq_false_iff,Bool.not_eq_false']at hp;simp only[au,hp.1,hp.2];rfl
 ·simp(disch:=omega)only[im,rs]
theorem jh5{i:Nat}(hi:i<ts.length)(a b c:Int):
  jex (i:Int) a ts b c 0=some (bif (List.range i).all (fun k=>frB (ts.getD i af.z).2.1 (ts.getD k af.z).2.1)then .inl ()else .inr false):=by
 have hli:=hi' _ (ao af.z hi);refine fj (fun k:Nat=>(k:Int)) i (aw (by omega)) (fun k=>frB (ts.getD i af.z).2.1 (ts.getD k af.z).2.1) () false ?_ ?_ ?_
 ·intro k hk hp;have hlk:=hi' _ (ao af.z (show k<ts.length by omega));simp(disch:=omega)only[qek,rs];rw[jha _ _ (by omega) (by omega),jfc _ _ (by omega),ag];unfold frB at hp;cases h1:jpw (ts.getD i af.z).2.1 (ts.getD k af.z).2.1 with
  |false=>rfl
  |true=>rw[h1]at hp;simp only[Bool.not_true,Bool.false_or]at hp;simp only[au,hp];rfl
 ·intro k hk hp;have hlk:=hi' _ (ao af.z (show k<ts.length by omega));simp(disch:=omega)only[qek,rs];rw[jha _ _ (by omega) (by omega),jfc _ _ (by omega)];unfold frB at hp;simp only[Bool.or_eq_false_iff,Bool.not_eq_false']at hp;simp only[au,hp.1,hp.2];rfl
 ·simp(disch:=omega)only[qek,rs]
theorem juj(a b c:Int):f6 (a,ts,b,c,())=some (qk2 ts):=by
 have hL:qfv ts (ts.length:Int) a ts b c 0=some (bif (List.range ts.length).all (fun i=>(List.range i).all fun k=>frB (ts.getD i af.z).2.1 (ts.getD k af.z).2.1)then .inl ()else .inr false):=by
  refine fj (fun k:Nat=>(k:Int)) ts.length (aw (by omega)) (fun i=>(List.range i).all fun k=>frB (ts.getD i af.z).2.1 (ts.getD k af.z).2.1) () false ?_ ?_ ?_
  ·intro i hi hp;simp(disch:=omega)only[io,rs];rw[jna hl hi' hi,hp,ag];rfl
  ·intro i hi hp;simp(disch:=omega)only[io,rs];rw[jna hl hi' hi,hp];rfl
  ·simp(disch:=omega)only[io,rs]
 unfold f6 qk2;simp only;rw[hL,au,qgy]
theorem j9y(a b c:Int):qma (a,ts,b,c,())=some (qk2 ts):=by
 have hL:jey a ts b c 0=some (bif (List.range ts.length).all (fun i=>(List.range i).all fun k=>frB (ts.getD i af.z).2.1 (ts.getD k af.z).2.1)then .inl ()else .inr false):=by
  refine fj (fun k:Nat=>(k:Int)) ts.length (aw (by omega)) (fun i=>(List.range i).all fun k=>frB (ts.getD i af.z).2.1 (ts.getD k af.z).2.1) () false ?_ ?_ ?_
  ·intro i hi hp;simp(disch:=omega)only[qel,rs];rw[jh5 hl hi' hi,hp,ag];rfl
  ·intro i hi hp;simp(disch:=omega)only[qel,rs];rw[jh5 hl hi' hi,hp];rfl
  ·simp(disch:=omega)only[qel,rs]
 unfold qma qk2;simp only;rw[hL,au,qgy]
end
end Go.Proofs.YtclbndfjhjladaaGreat
