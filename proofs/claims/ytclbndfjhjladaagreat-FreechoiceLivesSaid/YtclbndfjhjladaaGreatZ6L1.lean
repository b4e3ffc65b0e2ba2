/-
  Freechoice: Live: the program and the reference reckon alike.
-/
import Derived.Test.YtclbndfjhjladaaGreatZ6G2
import Derived.Test.YtclbndfjhjladaaGreatZ6W5
set_option linter.all false
namespace Go.Proofs.YtclbndfjhjladaaGreat
open Go.K Go.M
theorem jrt(n:ff)(m:List Int)(hm:m.length≤1000000):zb n m=some (qqk n.1 m):=by
 have hL:vz m (m.length:Int) 0=some (q6l (fun i=>(i:Int)) (qas q4b m)):=by
  refine ny m 0 q4b (fun i=>(i:Int)) (by omega) (fun i hi=> ?_) ?_
  ·unfold q4b;simp(disch:=omega)only[ii,qb1,ba,aj,ai,ar,ax,bc,a8,am,a7,al,az,ak,a9,ao,aq,af,ae,ag,au,ay,Int.toNat_natCast,decide_true];rw[bq];cases decide (m.getD i 0<0)<;>cases decide (100<m.getD i 0)<;>rfl
  ·simp(disch:=omega)only[ii,ba,aj,ai,ar,ax,bc,a8,am,a7,al,az,ak,a9,ao,aq,af,ae,ag,au,ay,Int.toNat_natCast,decide_true]
 have hC:ie m=some (m.any q4b):=by
  unfold ie oq;rw[hL,ag,qiv,ag,qny]
 unfold zb qqk;rw[hC];cases decide ((m.length:Int)=n.1)<;>cases m.any q4b<;>rfl
def jqq(ts:List ab)(p:Int):Bool:=ts.any fun t=>ls t.2.1 p
section
variable {ts : List ab} (hl : ts.length ≤ 100) (hi' : ∀ t ∈ ts, t.2.1.length ≤ 60)
include hl hi'
theorem jqw(p:Int):d6 ts p=some (jqq ts p):=by
 have hL:lg ts p (ts.length:Int) 0=some (q6l (fun i=>(i:Int)) (qas (fun t:ab=>ls t.2.1 p) ts)):=by
  refine ny ts ab.z (fun t:ab=>ls t.2.1 p) (fun i=>(i:Int)) (by omega) (fun i hi=> ?_) ?_
  ·have h1:=hi' _ (cr ab.z hi);simp(disch:=omega)only[d7,qiu,ba,aj,ai,ar,ax,bc,a8,am,a7,al,az,ak,a9,ao,aq,af,ae,ag,au,ay,Int.toNat_natCast,decide_true];rw[qsg _ (by omega),bq];simp only[ag];exact qw4
  ·simp(disch:=omega)only[d7,ba,aj,ai,ar,ax,bc,a8,am,a7,al,az,ak,a9,ao,aq,af,ae,ag,au,ay,Int.toNat_natCast,decide_true]
 unfold d6 gl;rw[hL,ag,qiv,ag,qny];rfl
theorem j2r(M:Nat)(hM:M≤1000)(a b:Int):z5 ((M:Int),ts,a,b,())=some ((List.range M).all fun p=>jqq ts (p:Int)):=by
 have hL:qst (M:Int) (M:Int) ts a b 0=some (bif (List.range M).all (fun p=>jqq ts (p:Int))then .inl ()else .inr false):=by
  refine z7 (fun i:Nat=>(i:Int)) M (ic (by omega)) (fun p=>jqq ts (p:Int)) () false ?_ ?_ ?_
  ·intro i hi hp;simp(disch:=omega)only[p7,jqw hl hi',hp,Bool.not_true,ba,aj,ai,ar,ax,bc,a8,am,a7,al,az,ak,a9,ao,aq,af,ae,ag,au,ay,Int.toNat_natCast,decide_true];rw[bq]
  ·intro i hi hp;simp(disch:=omega)only[p7,jqw hl hi',hp,Bool.not_false,ba,aj,ai,ar,ax,bc,a8,am,a7,al,az,ak,a9,ao,aq,af,ae,ag,au,ay,Int.toNat_natCast,decide_true]
  ·simp(disch:=omega)only[p7,ba,aj,ai,ar,ax,bc,a8,am,a7,al,az,ak,a9,ao,aq,af,ae,ag,au,ay,Int.toNat_natCast,decide_true]
 unfold z5;simp only;rw[hL,ag];cases(List.range M).all fun p=>jqq ts (p:Int)<;>rfl
theorem jof(m:List Int)(p c a b:Int):jab m p c ts a b (false,0)=some (.inl (jqq ts p)):=by
 refine qa4 (fun i=>((ts.take i).any fun t=>ls t.2.1 p,(i:Int))) ts.length (ic (by omega)) _ (fun i hi=> ?_) ?_ _ rfl
 ·have h1:=hi' _ (cr ab.z hi);have h2:((ts.take (i+1)).any fun t=>ls t.2.1 p)=(((ts.take i).any fun t=>ls t.2.1 p)||ls (ts.getD i ab.z).2.1 p):=by
   rw[f5 ts i ab.z hi,List.any_append];simp
  rw[h2];cases h3:(ts.take i).any fun t=>ls t.2.1 p with
  |true=>
   simp(disch:=omega)only[qeu,Bool.true_or,ba,aj,ai,ar,ax,bc,a8,am,a7,al,az,ak,a9,ao,aq,af,ae,ag,au,ay,Int.toNat_natCast,decide_true];rw[bq]
  |false=>
   simp(disch:=omega)only[qeu,joq (ts.getD i ab.z).2.1 (by omega),Bool.false_or,ba,aj,ai,ar,ax,bc,a8,am,a7,al,az,ak,a9,ao,aq,af,ae,ag,au,ay,Int.toNat_natCast,decide_true];rw[bq]
 ·rw[List.take_length];simp(disch:=omega)only[qeu,ba,aj,ai,ar,ax,bc,a8,am,a7,al,az,ak,a9,ao,aq,af,ae,ag,au,ay,Int.toNat_natCast,decide_true];rfl
theorem j0j(m:List Int)(M:Nat)(hM:M≤1000)(a b:Int):jac m (M:Int) ts a b 0=some (bif (List.range M).all (fun p=>jqq ts (p:Int))then .inl ()else .inr (false,[],19)):=by
 refine z7 (fun i:Nat=>(i:Int)) M (ic (by omega)) (fun p=>jqq ts (p:Int)) () (false,[],19) ?_ ?_ ?_
 ·intro i hi hp;simp(disch:=omega)only[qev,jof hl hi',hp,Bool.not_true,ba,aj,ai,ar,ax,bc,a8,am,a7,al,az,ak,a9,ao,aq,af,ae,ag,au,ay,Int.toNat_natCast,decide_true];rw[bq]
 ·intro i hi hp;simp(disch:=omega)only[qev,jof hl hi',hp,Bool.not_false,ba,aj,ai,ar,ax,bc,a8,am,a7,al,az,ak,a9,ao,aq,af,ae,ag,au,ay,Int.toNat_natCast,decide_true]
 ·simp(disch:=omega)only[qev,ba,aj,ai,ar,ax,bc,a8,am,a7,al,az,ak,a9,ao,aq,af,ae,ag,au,ay,Int.toNat_natCast,decide_true]
end
theorem q09(n:ff)(m:List Int):qau n m=some true:=by
 unfold qau;rw[jtg];obtain⟨b,hb,hg⟩:=jze n;simp only[ag,Bool.not_true,cond_false];rw[hb,ag];cases b with
 |true=>rfl
 |false=>
  obtain⟨h,_,hpl⟩:=hg rfl;by_cases hml:(60:Int)<(m.length:Int)
  ·rw[decide_eq_true hml];rfl
  ·have hml' :m.length≤1000000:=by omega
   rw[decide_eq_false hml];simp only[cond_false];have key:∃o:Bool×List Int×Int,qe7 n m=some o∧qyk n m=some o∧o.2.1.length≤1000000:=by
    unfold qe7 qyk;rw[jir h,jsx h,jrt n m hml',jnb n m hml'];simp only[ag];cases hv:zw n with
    |false=>exact⟨(false,[],1),rfl,rfl,Nat.zero_le _⟩
    |true=>
     cases hk:qqk n.1 m with
     |false=>exact⟨(false,[],1),rfl,rfl,Nat.zero_le _⟩
     |true=>
      have hv1:1≤n.1∧n.1≤40:=by
       unfold zw at hv;simp only[Bool.and_eq_true,decide_eq_true_eq]at hv;omega
      have hn:n.1=((n.1.toNat:Nat):Int):=by omega
      have e1:=jqy n n.1.toNat hn (by omega) h hv m hk hml';have e2:=jlp n n.1.toNat hn (by omega) h hv m hk;obtain⟨f1,f2⟩:=jen n n.1.toNat hn (by omega);have e3:(jw2 n h m (srt (fh n n.1.toNat))).2.1.length≤1000000:=by
       unfold jw2;split
       ·exact Nat.zero_le _
       ·rename_i i _;by_cases hi:i<(srt (fh n n.1.toNat)).length
        ·have:=(f2 i hi).1;show((srt (fh n n.1.toNat)).getD i []).length≤1000000;omega
        ·show((srt (fh n n.1.toNat)).getD i []).length≤1000000;rw[List.getD_eq_getElem?_getD,List.getElem?_eq_none (by omega)];exact Nat.zero_le _
      have u1:=j2r (ts:=n.2.1) h.trans h.ins n.1.toNat (by omega) n.2.2.1 n.2.2.2.1;have u2:=j0j (ts:=n.2.1) h.trans h.ins m n.1.toNat (by omega) n.2.2.1 n.2.2.2.1;have i1:=jxk (ts:=n.2.1) h.trans h.ins n.1 n.2.2.1 n.2.2.2.1;have i2:=j9r (ts:=n.2.1) h.trans h.ins n.1 n.2.2.1 n.2.2.2.1;rw[←hn]at u1 u2;simp only[Bool.not_true,cond_false];have i1:jm n=_:=i1;have i2:q3o n=_:=i2;have u1:z5 n=_:=u1;rw[i1,i2,u1,u2];simp only[ag];cases jry n.2.1 with
      |false=>exact⟨(false,[],19),rfl,rfl,Nat.zero_le _⟩
      |true=>
       cases(List.range n.1.toNat).all fun p=>jqq n.2.1 (p:Int)with
       |false=>exact⟨(false,[],19),rfl,rfl,Nat.zero_le _⟩
       |true=>
        rw[e1,e2];exact⟨_,rfl,rfl,e3⟩
   obtain⟨o,h1,h2,h3⟩:=key;rw[h1,h2];simp only[ag,BEq.rfl,cond_true];rw[jio _ _ h3];simp
end Go.Proofs.YtclbndfjhjladaaGreat
