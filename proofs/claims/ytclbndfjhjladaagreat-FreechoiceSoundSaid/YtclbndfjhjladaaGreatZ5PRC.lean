/-
  Freechoice: the incidence matrix; covered indices.
-/
import Derived.Test.YtclbndfjhjladaaGreatZ5PSH
set_option linter.all false
namespace Go.Proofs.YtclbndfjhjladaaGreat
open Go.K Go.M
theorem jq1{T j:Nat}{A:Nat→Int}{x:Int}(h:x=A j):(bh T fun t=>if t<j then A t else 0).set j x=bh T fun t=>if t<j+1 then A t else 0:=by
 rw[qr];refine cd fun v _=> ?_
 by_cases e:v=j
 ·rw[if_pos e,if_pos (by omega),h,e]
 ·rw[if_neg e];by_cases e2:v<j
  ·rw[if_pos e2,if_pos (by omega)]
  ·rw[if_neg e2,if_neg (by omega)]
theorem jt4{T j:Nat}{A:Nat→Int}(hj:j<T):(bh T fun t=>if t<j then A t else 0).getD j 0=0:=by
 rw[fq hj,if_neg (Nat.lt_irrefl j)]
theorem jna{T j:Nat}{A:Nat→Int}(hj:j<T):(bh T fun t=>if t<j then A t else 0).set j 0=bh T fun t=>if t<j then A t else 0:=by
 rw[qr];refine cd fun v _=> ?_
 by_cases e:v=j
 ·rw[if_pos e,if_neg (by omega)]
 ·rw[if_neg e]
theorem jq0{T:Nat}{A:Nat→Int}:(bh T fun t=>if t<T then A t else 0)=bh T A:=cd fun v hv=>if_pos hv
section
variable {n : bp} (h : Small n)
include h
theorem jte{p:Nat}{O:Rw}(hp:p<O.length)(a b c d e:Int):qhr (p:Int) a b n.2.1 (n.2.1.length:Int) c n.2.1 d e (0,O.set p (List.replicate n.2.1.length (0:Int)))=some (.inl (O.set p (bh n.2.1.length (AP n p)))):=by
 have hl:=h.trans;rw[qfj,←jq0 (A:=AP n p)];refine cn (fun j=>((j:Int),O.set p (bh n.2.1.length fun t=>if t<j then AP n p t else 0))) n.2.1.length (bc (by omega)) _ (fun j hj=> ?_) ?_ _ ?_
 ·have hm:=au ae.z hj;have h1:=h.ins _ hm;have h2:=h.outs _ hm;have hg:∀r:List Int,(O.set p r).getD p []=r:=fun r=>by simp[List.getD_eq_getElem?_getD,hp]
  have hA:AP n p j=(if dj (n.2.1.getD j ae.z).2.2.1 (p:Int)then 1 else 0)-(if dj (n.2.1.getD j ae.z).2.1 (p:Int)then 1 else 0):=rfl;have hr:=jt4 (A:=AP n p) hj;have hrl:(bh n.2.1.length fun t=>if t<j then AP n p t else 0).length=n.2.1.length:=cq _ _;have hs:∀x:Int,x=AP n p j→(bh n.2.1.length fun t=>if t<j then AP n p t else 0).set j x=bh n.2.1.length fun t=>if t<j+1 then AP n p t else 0:=fun x hx=>jq1 hx
  have hs0:=jna (A:=AP n p) hj;have hs2:∀x:Int,((bh n.2.1.length fun t=>if t<j then AP n p t else 0).set j x).getD j 0=x:=fun x=>by simp[List.getD_eq_getElem?_getD,hj]
  generalize(bh n.2.1.length fun t=>if t<j then AP n p t else 0)=r at*;unfold qe;simp(disch:=omega)only[o8 (n.2.1.getD j ae.z).2.2.1 (by omega),o8 (n.2.1.getD j ae.z).2.1 (by omega),rs];cases e1:dj (n.2.1.getD j ae.z).2.2.1 (p:Int)<;>cases e2:dj (n.2.1.getD j ae.z).2.1 (p:Int)<;>rw[e1,e2]at hA
  all_goals simp(disch:=omega)only[List.length_set,hg,hrl,hr,List.set_set,hs2,hs _ hA.symm,Int.zero_add,rs]
  all_goals first|rw[hs _ (by rw[hA];rfl),ah]|(conv=>{lhs;rw[←hs0]};rw[hs _ (by rw[hA];rfl),ah])
 ·simp(disch:=omega)only[qe,rs]
 ·congr 2
theorem jtf(N:Nat)(hN:N≤20)(hT:n.2.1.length≤20)(c d e:Int):qhs ((List.replicate N ([]:List Int)).length:Int) c n.2.1 d e (0,List.replicate N ([]:List Int))=some (.inl (rh N n.2.1.length (AP n))):=by
 rw[List.length_replicate,qfj];refine cn (fun i=>((i:Int),bh N fun q=>if q<i then bh n.2.1.length (AP n q)else [])) N (bc (by omega)) _ (fun i hi=> ?_) ?_ _ ?_
 ·have hl:(bh N fun q=>if q<i then bh n.2.1.length (AP n q)else []).length=N:=cq _ _;have e1:=jte h (p:=i) (O:=bh N fun q=>if q<i then bh n.2.1.length (AP n q)else []) (by omega) (N:Int) (i:Int) c d e;simp(disch:=omega)only[qf,hl,e1,rs];rw[qr,ah];congr 3;refine cd fun v _=> ?_
  by_cases e:v=i
  ·rw[if_pos e,if_pos (by omega),e]
  ·rw[if_neg e];by_cases e2:v<i
   ·rw[if_pos e2,if_pos (by omega)]
   ·rw[if_neg e2,if_neg (by omega)]
 ·simp(disch:=omega)only[qf,rs];congr 2;exact cd fun v hv=>if_pos hv
 ·congr 1
end
def qoz(rows:Rw)(N:Nat):Bool:=(List.range N).all fun i=>rows.any fun r=>decide (0<r.getD i 0)
theorem jst(r:List Int)(i:Nat)(hr:r.length≤1000):mr r (i:Int)=some (decide (0<r.getD i 0)):=by
 unfold mr;by_cases e:i<r.length
 ·simp(disch:=omega)only[rs]
 ·simp(disch:=omega)only[rs];rw[List.getD_eq_getElem?_getD,List.getElem?_eq_none (by omega)];rfl
section
variable {rows : Rw} (hl : rows.length ≤ 1000000) (hr : ∀ r ∈ rows, r.length ≤ 1000)
include hl hr
theorem ji4(i:Nat):er rows (i:Int)=some (rows.any fun r=>decide (0<r.getD i 0)):=by
 have hL:pu rows (i:Int) (rows.length:Int) 0=some (q4y (fun i=>(i:Int)) (vx (fun r:List Int=>decide (0<r.getD i 0)) rows)):=by
  refine sq rows [] (fun r:List Int=>decide (0<r.getD i 0)) (fun i=>(i:Int)) (by omega) (fun k hk=> ?_) ?_
  ·have e:=jst (rows.getD k []) i (hr _ (au [] hk));simp(disch:=omega)only[fa,e,rs];rw[ah];cases decide (0<(rows.getD k []).getD i 0)<;>rfl
  ·simp(disch:=omega)only[fa,rs]
 unfold er kw;rw[hL,ax,qe8,ax,qhk]
theorem q4r(N:Nat)(hN:N≤1000):fx rows (N:Int)=some (qoz rows N):=by
 have hL:qdf rows (N:Int) 0=some (bif qoz rows N then .inl ()else .inr false):=by
  refine rb (fun q=>(q:Int)) N (bc (by omega)) _ () false (fun i hi hp=> ?_) (fun i hi hp=> ?_) ?_
  ·simp(disch:=omega)only[iq,ji4 hl hr,hp,ah,rs]
  ·simp(disch:=omega)only[iq,ji4 hl hr,hp,rs]
  ·simp(disch:=omega)only[iq,rs]
 unfold fx;rw[hL,ax];cases qoz rows N<;>rfl
end
end Go.Proofs.YtclbndfjhjladaaGreat
set_option linter.all false
namespace Go.Proofs.YtclbndfjhjladaaGreat
open Go.K Go.M
theorem jso(n:bp)(h:n.2.1.length≤100)(h1:n.1≤100):(jos n).length≤1000:=by
 unfold jos qoq;rw[List.length_map];have:=q0d (yn (edA n.1.toNat false n.2.1 n.2.1.length)) (n.1.toNat+n.2.1.length);omega
theorem jox{n:bp}{rp rt:Rw}{a:Int}{P Q:Bool}{l:List Clu}(hP:fx rp n.1=some P)(hQ:fx rt (n.2.1.length:Int)=some Q)(hC:dp n=some l)(hl:l.length≤1000):
  (bnd (bq rp n.1 n.2.1 n.2.2.1 n.2.2.2.1 rt a) fun r8=>some ((!r8.1),(0:Int)))=some (P&&Q&&decide (a=(l.length:Int)-1),0):=by
 have hC:dp (n.1,n.2.1,n.2.2.1,n.2.2.2.1,())=some l:=hC;unfold bq cw ld lg lh ny n4 n5;cases P with
 |false=>simp(disch:=omega)only[hP,rs];rfl
 |true=>
  cases Q with
  |false=>simp(disch:=omega)only[hP,hQ,rs];rfl
  |true=>
   simp(disch:=omega)only[hP,hQ,hC,rs];cases decide (a=(l.length:Int)-1)<;>rfl
theorem jeb{n:bp}(hv:ck n=true)(hl:n.2.1.length<60):ck (am n)=true:=by
 unfold ck at hv⊢;simp only[Bool.and_eq_true,decide_eq_true_eq,Bool.not_eq_true',List.any_eq_false]at hv⊢;obtain⟨⟨⟨⟨⟨h1,h2⟩,h3⟩,h4⟩,h5⟩,h6⟩:=hv;refine⟨⟨⟨⟨⟨h1,h2⟩,?_⟩,fun t ht=> ?_⟩,h5⟩,h6⟩
 ·show(n.2.1++[xe n]).length≤60;rw[List.length_append];simp only[List.length_cons,List.length_nil];omega
 ·rcases List.mem_append.1 (show t∈n.2.1++[xe n]from ht)with ht|ht
  ·exact h4 t ht
  ·rw[List.mem_singleton.1 ht];unfold q1y;show¬(!eqS ⟨#[]⟩ ⟨#[]⟩&&_|| !qor n.1 [n.2.2.2.1]|| !qor n.1 [n.2.2.1])=true;rw[qwt,qwt,decide_eq_true h5.1,decide_eq_true h5.2,decide_eq_true h6.1,decide_eq_true h6.2];rw[show eqS ⟨#[]⟩ ⟨#[]⟩=true from BEq.rfl];simp
theorem jg8{n:bp}(hfr:qm1 n.2.1=true)(hs:∀t∈n.2.1,n.2.2.2.1∉t.2.1):qm1 (am n).2.1=true:=by
 show qm1 (n.2.1++[xe n])=true;unfold qm1 at hfr⊢;simp only[List.all_eq_true,List.mem_range]at hfr⊢;intro i hi k hk;rw[List.length_append]at hi;simp only[List.length_cons,List.length_nil]at hi;have e1:∀j,j<n.2.1.length→(n.2.1++[xe n]).getD j ae.z=n.2.1.getD j ae.z:=fun j hj=>by
  rw[List.getD_eq_getElem?_getD,List.getD_eq_getElem?_getD,List.getElem?_append_left hj]
 by_cases hin:i<n.2.1.length
 ·rw[e1 i hin,e1 k (by omega)];exact hfr i hin k hk
 ·have e2:(n.2.1++[xe n]).getD i ae.z=xe n:=by
   obtain rfl:i=n.2.1.length:=by omega
   rw[List.getD_eq_getElem?_getD,List.getElem?_append_right (Nat.le_refl _),Nat.sub_self];rfl
  rw[e2,e1 k (by omega)];have hk' :k<n.2.1.length:=by omega
  have:=qdl.2 (hs _ (au ae.z hk'));unfold frB jow;show(!([n.2.2.2.1].any (dj (n.2.1.getD k ae.z).2.1))||_)=true;rw[List.any_cons,List.any_nil,this];rfl
def qfs(x:Int)(rows:Rw):Bool:=rows.all fun r=>dj r x
section
variable {rows : Rw} (hl : rows.length ≤ 1000000) (hr : ∀ r ∈ rows, r.length ≤ 1000) (n : bp)
include hl hr
theorem jrz:em rows n=some (!qfs n.2.2.1 rows):=by
 have hL:po rows n (rows.length:Int) 0=some (q4y (fun i=>(i:Int)) (vx (fun r:List Int=> !dj r n.2.2.1) rows)):=by
  refine sq rows [] (fun r:List Int=> !dj r n.2.2.1) (fun i=>(i:Int)) (by omega) (fun k hk=> ?_) ?_
  ·have e:=hr _ (au [] hk);simp(disch:=omega)only[ew,xg,o8 (rows.getD k []) (by omega),rs];rw[ah];cases dj (rows.getD k []) n.2.2.1<;>rfl
  ·simp(disch:=omega)only[ew,rs]
 unfold em kq qfs;rw[hL,ax,qe8,ax,qhk,List.all_eq_not_any_not,Bool.not_not]
end
end Go.Proofs.YtclbndfjhjladaaGreat
