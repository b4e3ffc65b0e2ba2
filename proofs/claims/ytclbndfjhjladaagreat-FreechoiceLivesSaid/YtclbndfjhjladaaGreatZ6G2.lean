/-
  Freechoice: free-choice nets, lists with a common number.
-/
import Derived.Test.YtclbndfjhjladaaGreatZ6G1
set_option linter.all false
namespace Go.Proofs.YtclbndfjhjladaaGreat
open Go.K Go.M
theorem jio(a b:List Int)(ha:a.length≤1000000):kh a b=some (decide (a=b)):=by
 unfold kh;by_cases hl:a.length=b.length
 ·rw[q4d (by simp[hl])];have hloop:qj0 a b (a.length:Int) 0=some (bif (List.range a.length).all (fun i=>decide (a.getD i 0=b.getD i 0))then .inl ()else .inr false):=by
   refine z7 (fun i:Nat=>(i:Int)) a.length (ic (by omega)) _ () false ?_ ?_ ?_
   ·intro i hi hp;have hp' :a.getD i 0=b.getD i 0:=of_decide_eq_true hp;simp(disch:=omega)only[kj,ba,aj,ai,ar,ax,bc,a8,am,a7,al,az,ak,a9,ao,aq,af,ae,ag,au,ay,Int.toNat_natCast,decide_true];rw[bq]
   ·intro i hi hp;have hp' :a.getD i 0≠b.getD i 0:=of_decide_eq_false hp;simp(disch:=omega)only[kj,ba,aj,ai,ar,ax,bc,a8,am,a7,al,az,ak,a9,ao,aq,af,ae,ag,au,ay,Int.toNat_natCast,decide_true]
   ·simp(disch:=omega)only[kj,ba,aj,ai,ar,ax,bc,a8,am,a7,al,az,ak,a9,ao,aq,af,ae,ag,au,ay,Int.toNat_natCast,decide_true]
  rw[hloop,ag];have hall:(List.range a.length).all (fun i=>decide (a.getD i 0=b.getD i 0))=decide (a=b):=by
   rw[Bool.eq_iff_iff,List.all_eq_true,decide_eq_true_iff];constructor
   ·intro h;refine List.ext_getElem hl fun i h1 h2=> ?_
    have:=of_decide_eq_true (h i (List.mem_range.2 h1));rw[qa3 a i 0 h1,qa3 b i 0 h2]at this;exact this
   ·rintro rfl i _;simp
  rw[hall];cases decide (a=b)<;>rfl
 ·have:¬a=b:=fun h=>hl (by rw[h])
  rw[q4e (by simp;omega),decide_eq_false this]
def jw8(a b:List Int):Bool:=a.any (ls b)
def frB(a b:List Int):Bool:= !jw8 a b||decide (a=b)
def jry(ts:List ab):Bool:=(List.range ts.length).all fun i=>(List.range i).all fun k=>frB (ts.getD i ab.z).2.1 (ts.getD k ab.z).2.1
theorem jvc(a:List Int)(t:ab)(ha:a.length≤1000000)(ht:t.2.1.length≤1000000):iz a t=some (jw8 a t.2.1):=by
 have h1:∀x,u7 x t=some (ls t.2.1 x):=fun x=>by
  unfold u7;simp(disch:=omega)only[ba,aj,ai,ar,ax,bc,a8,am,a7,al,az,ak,a9,ao,aq,af,ae,ag,au,ay,Int.toNat_natCast,decide_true];rw[qsg _ ht];rfl
 have hL:y4 a t (a.length:Int) 0=some (q6l (fun i=>(i:Int)) (qas (ls t.2.1) a)):=by
  refine ny a 0 (ls t.2.1) (fun i=>(i:Int)) (by omega) (fun i hi=> ?_) ?_
  ·simp(disch:=omega)only[i4,h1,ba,aj,ai,ar,ax,bc,a8,am,a7,al,az,ak,a9,ao,aq,af,ae,ag,au,ay,Int.toNat_natCast,decide_true];rw[bq];exact qw4
  ·simp(disch:=omega)only[i4,ba,aj,ai,ar,ax,bc,a8,am,a7,al,az,ak,a9,ao,aq,af,ae,ag,au,ay,Int.toNat_natCast,decide_true]
 unfold iz pi;rw[hL,ag,qiv,ag,qny];rfl
theorem jnq(a b:List Int)(ha:a.length≤1000000)(hb:b.length≤1000000):qq3 a b=some (jw8 a b):=by
 have hL:q3r a b 0=some (bif a.any (ls b)then .inr true else .inl ()):=by
  refine qb2 a 0 (ls b) true (by omega) (fun i hi=> ?_) ?_
  ·simp(disch:=omega)only[qfe,ba,aj,ai,ar,ax,bc,a8,am,a7,al,az,ak,a9,ao,aq,af,ae,ag,au,ay,Int.toNat_natCast,decide_true];rw[joq _ hb,bq,ag];exact qw4
  ·simp(disch:=omega)only[qfe,ba,aj,ai,ar,ax,bc,a8,am,a7,al,az,ak,a9,ao,aq,af,ae,ag,au,ay,Int.toNat_natCast,decide_true]
 unfold qq3 jw8;rw[hL];cases a.any (ls b)<;>rfl
theorem q1e{b:Bool}:(lk (bif b then(.inl ():Unit⊕Bool)else .inr false) (fun _=>some true) fun r=>some r)=some b:=by cases b<;>rfl
section
variable {ts : List ab} (hl : ts.length ≤ 100) (hi' : ∀ t ∈ ts, t.2.1.length ≤ 60)
include hl hi'
theorem jrx{i:Nat}(hi:i<ts.length)(a b c d e:Int)(x1:ByteArray)(x3:List Int):
  qqf ts a b (ts.take i) ((ts.take i).length:Int) c ts d e x1 (ts.getD i ab.z).2.1 x3 0=some (bif (List.range i).all (fun k=>frB (ts.getD i ab.z).2.1 (ts.getD k ab.z).2.1)then .inl ()else .inr false):=by
 have hli:=hi' _ (cr ab.z hi);have hlen:(ts.take i).length=i:=by rw[List.length_take];omega
 have hget:∀k,k<i→(ts.take i).getD k ab.z=ts.getD k ab.z:=fun k hk=>by
  rw[List.getD_eq_getElem?_getD,List.getD_eq_getElem?_getD,List.getElem?_take,if_pos hk]
 rw[hlen];refine z7 (fun k:Nat=>(k:Int)) i (ic (by omega)) (fun k=>frB (ts.getD i ab.z).2.1 (ts.getD k ab.z).2.1) () false ?_ ?_ ?_
 ·intro k hk hp;have hlk:=hi' _ (cr ab.z (show k<ts.length by omega));simp(disch:=omega)only[na,hlen,hget k hk,ba,aj,ai,ar,ax,bc,a8,am,a7,al,az,ak,a9,ao,aq,af,ae,ag,au,ay,Int.toNat_natCast,decide_true];rw[jvc _ _ (by omega) (by omega),jio _ _ (by omega),bq];unfold frB at hp;cases h1:jw8 (ts.getD i ab.z).2.1 (ts.getD k ab.z).2.1 with
  |false=>rfl
  |true=>rw[h1]at hp;simp only[Bool.not_true,Bool.false_or]at hp;simp only[ag,hp];rfl
 ·intro k hk hp;have hlk:=hi' _ (cr ab.z (show k<ts.length by omega));simp(disch:=omega)only[na,hlen,hget k hk,ba,aj,ai,ar,ax,bc,a8,am,a7,al,az,ak,a9,ao,aq,af,ae,ag,au,ay,Int.toNat_natCast,decide_true];rw[jvc _ _ (by omega) (by omega),jio _ _ (by omega)];unfold frB at hp;simp only[Bool.or_eq_false_iff,Bool.not_eq_false']at hp;simp only[ag,hp.1,hp.2];rfl
 ·simp(disch:=omega)only[na,ba,aj,ai,ar,ax,bc,a8,am,a7,al,az,ak,a9,ao,aq,af,ae,ag,au,ay,Int.toNat_natCast,decide_true]
theorem joe{i:Nat}(hi:i<ts.length)(a b c:Int):
  jll (i:Int) a ts b c 0=some (bif (List.range i).all (fun k=>frB (ts.getD i ab.z).2.1 (ts.getD k ab.z).2.1)then .inl ()else .inr false):=by
 have hli:=hi' _ (cr ab.z hi);refine z7 (fun k:Nat=>(k:Int)) i (ic (by omega)) (fun k=>frB (ts.getD i ab.z).2.1 (ts.getD k ab.z).2.1) () false ?_ ?_ ?_
 ·intro k hk hp;have hlk:=hi' _ (cr ab.z (show k<ts.length by omega));simp(disch:=omega)only[qoz,ba,aj,ai,ar,ax,bc,a8,am,a7,al,az,ak,a9,ao,aq,af,ae,ag,au,ay,Int.toNat_natCast,decide_true];rw[jnq _ _ (by omega) (by omega),jls _ _ (by omega),bq];unfold frB at hp;cases h1:jw8 (ts.getD i ab.z).2.1 (ts.getD k ab.z).2.1 with
  |false=>rfl
  |true=>rw[h1]at hp;simp only[Bool.not_true,Bool.false_or]at hp;simp only[ag,hp];rfl
 ·intro k hk hp;have hlk:=hi' _ (cr ab.z (show k<ts.length by omega));simp(disch:=omega)only[qoz,ba,aj,ai,ar,ax,bc,a8,am,a7,al,az,ak,a9,ao,aq,af,ae,ag,au,ay,Int.toNat_natCast,decide_true];rw[jnq _ _ (by omega) (by omega),jls _ _ (by omega)];unfold frB at hp;simp only[Bool.or_eq_false_iff,Bool.not_eq_false']at hp;simp only[ag,hp.1,hp.2];rfl
 ·simp(disch:=omega)only[qoz,ba,aj,ai,ar,ax,bc,a8,am,a7,al,az,ak,a9,ao,aq,af,ae,ag,au,ay,Int.toNat_natCast,decide_true]
theorem jxk(a b c:Int):jm (a,ts,b,c,())=some (jry ts):=by
 have hL:qqg ts (ts.length:Int) a ts b c 0=some (bif (List.range ts.length).all (fun i=>(List.range i).all fun k=>frB (ts.getD i ab.z).2.1 (ts.getD k ab.z).2.1)then .inl ()else .inr false):=by
  refine z7 (fun k:Nat=>(k:Int)) ts.length (ic (by omega)) (fun i=>(List.range i).all fun k=>frB (ts.getD i ab.z).2.1 (ts.getD k ab.z).2.1) () false ?_ ?_ ?_
  ·intro i hi hp;simp(disch:=omega)only[nc,ba,aj,ai,ar,ax,bc,a8,am,a7,al,az,ak,a9,ao,aq,af,ae,ag,au,ay,Int.toNat_natCast,decide_true];rw[jrx hl hi' hi,hp,bq];rfl
  ·intro i hi hp;simp(disch:=omega)only[nc,ba,aj,ai,ar,ax,bc,a8,am,a7,al,az,ak,a9,ao,aq,af,ae,ag,au,ay,Int.toNat_natCast,decide_true];rw[jrx hl hi' hi,hp];rfl
  ·simp(disch:=omega)only[nc,ba,aj,ai,ar,ax,bc,a8,am,a7,al,az,ak,a9,ao,aq,af,ae,ag,au,ay,Int.toNat_natCast,decide_true]
 unfold jm jry;simp only;rw[hL,ag,q1e]
theorem j9r(a b c:Int):q3o (a,ts,b,c,())=some (jry ts):=by
 have hL:jlm a ts b c 0=some (bif (List.range ts.length).all (fun i=>(List.range i).all fun k=>frB (ts.getD i ab.z).2.1 (ts.getD k ab.z).2.1)then .inl ()else .inr false):=by
  refine z7 (fun k:Nat=>(k:Int)) ts.length (ic (by omega)) (fun i=>(List.range i).all fun k=>frB (ts.getD i ab.z).2.1 (ts.getD k ab.z).2.1) () false ?_ ?_ ?_
  ·intro i hi hp;simp(disch:=omega)only[qo0,ba,aj,ai,ar,ax,bc,a8,am,a7,al,az,ak,a9,ao,aq,af,ae,ag,au,ay,Int.toNat_natCast,decide_true];rw[joe hl hi' hi,hp,bq];rfl
  ·intro i hi hp;simp(disch:=omega)only[qo0,ba,aj,ai,ar,ax,bc,a8,am,a7,al,az,ak,a9,ao,aq,af,ae,ag,au,ay,Int.toNat_natCast,decide_true];rw[joe hl hi' hi,hp];rfl
  ·simp(disch:=omega)only[qo0,ba,aj,ai,ar,ax,bc,a8,am,a7,al,az,ak,a9,ao,aq,af,ae,ag,au,ay,Int.toNat_natCast,decide_true]
 unfold q3o jry;simp only;rw[hL,ag,q1e]
end
end Go.Proofs.YtclbndfjhjladaaGreat
