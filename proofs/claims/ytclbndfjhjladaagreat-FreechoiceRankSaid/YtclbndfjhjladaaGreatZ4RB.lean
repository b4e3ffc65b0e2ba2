/-
  Freechoice: the incidence matrix; covered indices.
-/
import Derived.Test.YtclbndfjhjladaaGreatZ4SH
set_option linter.all false
namespace Go.Proofs.YtclbndfjhjladaaGreat
open Go.K Go.M
theorem jot{T j:Nat}{A:Nat→Int}{x:Int}(h:x=A j):(bh T fun t=>if t<j then A t else 0).set j x=bh T fun t=>if t<j+1 then A t else 0:=by
 rw[ml];refine bp fun v _=> ?_
 by_cases e:v=j
 ·rw[if_pos e,if_pos (by omega),h,e]
 ·rw[if_neg e];by_cases e2:v<j
  ·rw[if_pos e2,if_pos (by omega)]
  ·rw[if_neg e2,if_neg (by omega)]
theorem jsx{T j:Nat}{A:Nat→Int}(hj:j<T):(bh T fun t=>if t<j then A t else 0).getD j 0=0:=by
 rw[di hj,if_neg (Nat.lt_irrefl j)]
theorem jh7{T j:Nat}{A:Nat→Int}(hj:j<T):(bh T fun t=>if t<j then A t else 0).set j 0=bh T fun t=>if t<j then A t else 0:=by
 rw[ml];refine bp fun v _=> ?_
 by_cases e:v=j
 ·rw[if_pos e,if_neg (by omega)]
 ·rw[if_neg e]
theorem jos{T:Nat}{A:Nat→Int}:(bh T fun t=>if t<T then A t else 0)=bh T A:=bp fun v hv=>if_pos hv
section
variable {n : ca} (h : Small n)
include h
theorem j0w{p:Nat}{O:Rw}(hp:p<O.length)(a b c d e:Int):qiz (p:Int) a b n.2.1 (n.2.1.length:Int) c n.2.1 d e (0,O.set p (List.replicate n.2.1.length (0:Int)))=some (.inl (O.set p (bh n.2.1.length (AP n p)))):=by
 have hl:=h.trans;rw[qa9,←jos (A:=AP n p)];refine a9 (fun j=>((j:Int),O.set p (bh n.2.1.length fun t=>if t<j then AP n p t else 0))) n.2.1.length (aw (by omega)) _ (fun j hj=> ?_) ?_ _ ?_
 ·have hm:=ao af.z hj;have h1:=h.ins _ hm;have h2:=h.outs _ hm;have hg:∀r:List Int,(O.set p r).getD p []=r:=fun r=>by simp[List.getD_eq_getElem?_getD,hp]
  have hA:AP n p j=(if cn (n.2.1.getD j af.z).2.2.1 (p:Int)then 1 else 0)-(if cn (n.2.1.getD j af.z).2.1 (p:Int)then 1 else 0):=rfl;have hr:=jsx (A:=AP n p) hj;have hrl:(bh n.2.1.length fun t=>if t<j then AP n p t else 0).length=n.2.1.length:=bn _ _;have hs:∀x:Int,x=AP n p j→(bh n.2.1.length fun t=>if t<j then AP n p t else 0).set j x=bh n.2.1.length fun t=>if t<j+1 then AP n p t else 0:=fun x hx=>jot hx
  have hs0:=jh7 (A:=AP n p) hj;have hs2:∀x:Int,((bh n.2.1.length fun t=>if t<j then AP n p t else 0).set j x).getD j 0=x:=fun x=>by simp[List.getD_eq_getElem?_getD,hj]
  generalize(bh n.2.1.length fun t=>if t<j then AP n p t else 0)=r at*;unfold pp;simp(disch:=omega)only[om (n.2.1.getD j af.z).2.2.1 (by omega),om (n.2.1.getD j af.z).2.1 (by omega),rs];cases e1:cn (n.2.1.getD j af.z).2.2.1 (p:Int)<;>cases e2:cn (n.2.1.getD j af.z).2.1 (p:Int)<;>rw[e1,e2]at hA
  all_goals simp(disch:=omega)only[List.length_set,hg,hrl,hr,List.set_set,hs2,hs _ hA.symm,Int.zero_add,rs]
  all_goals first|rw[hs _ (by rw[hA];rfl),ag]|(conv=>{lhs;rw[←hs0]};rw[hs _ (by rw[hA];rfl),ag])
 ·simp(disch:=omega)only[pp,rs]
 ·congr 2
theorem j0x(N:Nat)(hN:N≤20)(hT:n.2.1.length≤20)(c d e:Int):qi0 ((List.replicate N ([]:List Int)).length:Int) c n.2.1 d e (0,List.replicate N ([]:List Int))=some (.inl (mz N n.2.1.length (AP n))):=by
 rw[List.length_replicate,qa9];refine a9 (fun i=>((i:Int),bh N fun q=>if q<i then bh n.2.1.length (AP n q)else [])) N (aw (by omega)) _ (fun i hi=> ?_) ?_ _ ?_
 ·have hl:(bh N fun q=>if q<i then bh n.2.1.length (AP n q)else []).length=N:=bn _ _;have e1:=j0w h (p:=i) (O:=bh N fun q=>if q<i then bh n.2.1.length (AP n q)else []) (by omega) (N:Int) (i:Int) c d e;simp(disch:=omega)only[pq,hl,e1,rs];rw[ml,ag];congr 3;refine bp fun v _=> ?_
  by_cases e:v=i
  ·rw[if_pos e,if_pos (by omega),e]
  ·rw[if_neg e];by_cases e2:v<i
   ·rw[if_pos e2,if_pos (by omega)]
   ·rw[if_neg e2,if_neg (by omega)]
 ·simp(disch:=omega)only[pq,rs];congr 2;exact bp fun v hv=>if_pos hv
 ·congr 1
theorem jyt(p:Nat)(a b c:Int)(O:Rw):qi8 (p:Int) a n.2.1 b c O (0,List.replicate n.2.1.length (0:Int))=some (.inl (bh n.2.1.length (AP n p))):=by
 have hl:=h.trans;rw[qa9,←jos (A:=AP n p)];refine a9 (fun j=>((j:Int),bh n.2.1.length fun t=>if t<j then AP n p t else 0)) n.2.1.length (aw (by omega)) _ (fun j hj=> ?_) ?_ _ ?_
 ·have hm:=ao af.z hj;have h1:=h.ins _ hm;have h2:=h.outs _ hm;have hA:AP n p j=(if cn (n.2.1.getD j af.z).2.2.1 (p:Int)then 1 else 0)-(if cn (n.2.1.getD j af.z).2.1 (p:Int)then 1 else 0):=rfl;have hr:=jsx (A:=AP n p) hj;have hrl:(bh n.2.1.length fun t=>if t<j then AP n p t else 0).length=n.2.1.length:=bn _ _;have hs:∀x:Int,x=AP n p j→(bh n.2.1.length fun t=>if t<j then AP n p t else 0).set j x=bh n.2.1.length fun t=>if t<j+1 then AP n p t else 0:=fun x hx=>jot hx
  have hs0:=jh7 (A:=AP n p) hj;have hs2:∀x:Int,((bh n.2.1.length fun t=>if t<j then AP n p t else 0).set j x).getD j 0=x:=fun x=>by simp[List.getD_eq_getElem?_getD,hj]
  generalize(bh n.2.1.length fun t=>if t<j then AP n p t else 0)=r at*;unfold p0;simp(disch:=omega)only[rx (n.2.1.getD j af.z).2.2.1 (by omega),rx (n.2.1.getD j af.z).2.1 (by omega),rs];cases e1:cn (n.2.1.getD j af.z).2.2.1 (p:Int)<;>cases e2:cn (n.2.1.getD j af.z).2.1 (p:Int)<;>rw[e1,e2]at hA
  all_goals simp(disch:=omega)only[List.length_set,hrl,hr,List.set_set,hs2,hs _ hA.symm,Int.zero_add,rs]
  all_goals first|rw[hs _ (by rw[hA];rfl),ag]|(conv=>{lhs;rw[←hs0]};rw[hs _ (by rw[hA];rfl),ag])
 ·simp(disch:=omega)only[p0,rs]
 ·congr 2
theorem jyu(N:Nat)(hN:N≤20)(hT:n.2.1.length≤20)(d e:Int):qi9 (N:Int) n.2.1 d e (0,[])=some (.inl (mz N n.2.1.length (AP n))):=by
 refine a9 (fun i:Nat=>((i:Int),mz i n.2.1.length (AP n))) N (aw (by omega)) _ (fun i hi=> ?_) ?_ _ rfl
 ·have e1:=jyt h i (N:Int) d e (mz i n.2.1.length (AP n));have e2:mz (i+1) n.2.1.length (AP n)=mz i n.2.1.length (AP n)++[bh n.2.1.length fun j=>AP n i j]:=mm _ _;rw[e2];simp(disch:=omega)only[p8,e1,yh,rs];rw[ag]
 ·simp(disch:=omega)only[p8,rs]
theorem j5f(hv:c6 n=true)(h0:0<n.2.1.length)(hT:n.2.1.length≤20)(hN:n.1≤20):wm n=some (0,mz n.1.toNat n.2.1.length (AP n))∧wx n=some (0,mz n.1.toNat n.2.1.length (AP n)):=by
 obtain⟨p1,_,_⟩:=ur hv;have e1:=j0x h n.1.toNat (by omega) hT n.1 n.2.2.1 n.2.2.2.1;have e2:=jyu h n.1.toNat (by omega) hT n.2.2.1 n.2.2.2.1;rw[Int.toNat_of_nonneg (by omega)]at e2;constructor
 ·unfold wm;simp(disch:=omega)only[yu h,hv,e1,rs]
 ·unfold wx;simp(disch:=omega)only[oq h,hv,e2,rs]
end
def jms(rows:Rw)(N:Nat):Bool:=(List.range N).all fun i=>rows.any fun r=>decide (0<r.getD i 0)
theorem j0e(r:List Int)(i:Nat)(hr:r.length≤1000):lz r (i:Int)=some (decide (0<r.getD i 0)):=by
 unfold lz;by_cases e:i<r.length
 ·simp(disch:=omega)only[rs]
 ·simp(disch:=omega)only[rs];rw[List.getD_eq_getElem?_getD,List.getElem?_eq_none (by omega)];rfl
section
variable {rows : Rw} (hl : rows.length ≤ 1000000) (hr : ∀ r ∈ rows, r.length ≤ 1000)
include hl hr
theorem jrm(i:Nat):d6 rows (i:Int)=some (rows.any fun r=>decide (0<r.getD i 0)):=by
 have hL:pd rows (i:Int) (rows.length:Int) 0=some (jfr (fun i=>(i:Int)) (qba (fun r:List Int=>decide (0<r.getD i 0)) rows)):=by
  refine ua rows [] (fun r:List Int=>decide (0<r.getD i 0)) (fun i=>(i:Int)) (by omega) (fun k hk=> ?_) ?_
  ·have e:=j0e (rows.getD k []) i (hr _ (ao [] hk));simp(disch:=omega)only[d9,e,rs];rw[ag];cases decide (0<(rows.getD k []).getD i 0)<;>rfl
  ·simp(disch:=omega)only[d9,rs]
 unfold d6 ju;rw[hL,au,qis,au,qir]
theorem jbe(N:Nat)(hN:N≤1000):fg rows (N:Int)=some (jms rows N):=by
 have hL:qea rows (N:Int) 0=some (bif jms rows N then .inl ()else .inr false):=by
  refine fj (fun q=>(q:Int)) N (aw (by omega)) _ () false (fun i hi hp=> ?_) (fun i hi hp=> ?_) ?_
  ·simp(disch:=omega)only[gm,jrm hl hr,hp,ag,rs]
  ·simp(disch:=omega)only[gm,jrm hl hr,hp,rs]
  ·simp(disch:=omega)only[gm,rs]
 unfold fg;rw[hL,au];cases jms rows N<;>rfl
end
theorem jn5{rows:Rw}(hl:rows.length≤1000000)(i N:Nat)(hr:∀r∈rows,i<r.length):qp5 rows (N:Int) (i:Int) (false,0)=some (.inl (rows.any fun r=>decide (0<r.getD i 0))):=by
 refine a9 (fun k=>((rows.take k).any (fun r=>decide (0<r.getD i 0)),(k:Int))) rows.length (aw (by omega)) _ (fun k hk=> ?_) ?_ _ rfl
 ·have hi:=hr _ (ao [] hk);rw[ct rows k [] hk,List.any_append];unfold uo;simp(disch:=omega)only[rs];rw[ag,List.any_cons,List.any_nil,Bool.or_false];cases decide (0<(rows.getD k []).getD i 0)
  ·rw[Bool.or_false];rfl
  ·rw[Bool.or_true];rfl
 ·simp(disch:=omega)only[uo,List.take_length,rs]
theorem q6h{rows:Rw}(hl:rows.length≤1000000)(N:Nat)(hN:N≤1000)(hr:∀r∈rows,r.length=N):v9 rows (N:Int)=some (jms rows N):=by
 have hL:qp6 rows (N:Int) 0=some (bif jms rows N then .inl ()else .inr false):=by
  refine fj (fun q=>(q:Int)) N (aw (by omega)) _ () false (fun i hi hp=> ?_) (fun i hi hp=> ?_) ?_
  ·simp(disch:=omega)only[n8,jn5 hl i N (fun r h=>by rw[hr r h];exact hi),hp,ag,rs]
  ·simp(disch:=omega)only[n8,jn5 hl i N (fun r h=>by rw[hr r h];exact hi),hp,rs]
  ·simp(disch:=omega)only[n8,rs]
 unfold v9;rw[hL,au];cases jms rows N<;>rfl
end Go.Proofs.YtclbndfjhjladaaGreat
