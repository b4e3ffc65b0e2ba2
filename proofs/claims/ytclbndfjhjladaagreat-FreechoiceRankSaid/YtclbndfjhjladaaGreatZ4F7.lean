/-
  Flow: the reference's elimination is elimE too.
-/
import Derived.Test.YtclbndfjhjladaaGreatZ4F6
set_option linter.all false
namespace Go.Proofs.YtclbndfjhjladaaGreat
open Go.K Go.M
theorem q11{n:Nat}(a b:List Int)(ha:a.length=n)(hb:b.length=n)(hn:n≤1000):qd a b=some (cl n a b):=by
 subst ha;have hL:qtn a b 0=some (bif cl a.length a b then .inl ()else .inr false):=by
  unfold cl;refine fj (fun i:Nat=>(i:Int)) a.length (aw (by omega)) (fun i=>decide (a.getD i 0=0)|| !decide (b.getD i 0=0)) () false (fun i hi hp=> ?_) (fun i hi hp=> ?_) ?_
  ·rw[Bool.or_eq_true,decide_eq_true_eq,Bool.not_eq_true',decide_eq_false_iff_not]at hp;by_cases h1:a.getD i 0=0
   ·simp(disch:=omega)only[lq,rs];rw[ag]
   ·have h2:=hp.resolve_left h1;simp(disch:=omega)only[lq,rs];rw[ag]
  ·rw[Bool.or_eq_false_iff,decide_eq_false_iff_not,Bool.not_eq_false',decide_eq_true_eq]at hp;obtain⟨h1,h2⟩:=hp;simp(disch:=omega)only[lq,rs]
  ·simp(disch:=omega)only[lq,rs]
 unfold qd;rw[hL];cases cl a.length a b<;>rfl
abbrev jzq:Type:=ae
def toR(r:br):jzq:=(r.1,r.2,())
def rsE(S:List br):List jzq:=S.map toR
theorem ir(S:List br):(rsE S).length=S.length:=List.length_map _
theorem qmb(S:List br)(i:Nat):(rsE S).getD i ae.z=toR (S.getD i ([],[])):=by
 unfold rsE;rw[List.getD_eq_getElem?_getD,List.getElem?_map,List.getD_eq_getElem?_getD];cases S[i]? <;>rfl
theorem jrf(r:br):(toR r).1=r.1:=rfl
theorem jg0(r:br):(toR r).2.1=r.2:=rfl
theorem jlj(S:List br)(x:br):rsE S++[toR x]=rsE (S++[x]):=by simp[rsE]
theorem jh4{n:Nat}(hn:n≤60)(S:List br)(hS:∀r∈S,r.2.length=n)(hSl:S.length≤100000)(x:br)(hx:x.2.length=n):ql2 (toR x) (rsE S)=some (rsE (qq1 n S x)):=by
 have e0:q6x (rsE S) x.1 x.2 0=some (bif S.any (fun r=>cl n r.2 x.2)then .inr (rsE S)else .inl ()):=by
  refine f7 S ([],[]) (fun r=>cl n r.2 x.2) (rsE S) (by omega) (fun i hi=> ?_) ?_
  ·have hm:=q11 (S.getD i ([],[])).2 x.2 (hS _ (ao _ hi)) hx (by omega);simp(disch:=omega)only[qgl,ir,qmb,jg0,hm,rs];rw[ag];cases cl n (S.getD i ([],[])).2 x.2<;>rfl
  ·simp(disch:=omega)only[qgl,ir,rs]
 have e1:q6y (rsE S) x.1 x.2 (0,[])=some (.inl (rsE (uy n x S))):=by
  have e:uy n x S=uy n x (S.take S.length):=by rw[List.take_length]
  rw[e];refine a9 (fun i:Nat=>((i:Int),rsE (uy n x (S.take i)))) S.length (aw (by omega)) _ (fun i hi=> ?_) ?_ _ rfl
  ·have hm:=q11 x.2 (S.getD i ([],[])).2 hx (hS _ (ao _ hi)) (by omega);have hk:=qle n x S i;rw[q3p n x S i hi];cases hw:cl n x.2 (S.getD i zE).2 with
   |true=>
    have hm:qd x.2 (S.getD i ([],[])).2=some true:=by rw[hm];exact congrArg some hw
    simp(disch:=omega)only[qam,ir,qmb,jg0,hm,Bool.not_true,rs];rw[ag]
   |false=>
    have hm:qd x.2 (S.getD i ([],[])).2=some false:=by rw[hm];exact congrArg some hw
    simp(disch:=omega)only[qam,ir,qmb,jg0,hm,Bool.not_false,rs];rw[ag,jlj]
  ·simp(disch:=omega)only[qam,ir,rs]
 have hk:=qle n x S S.length;rw[List.take_length]at hk;unfold ql2 qq1;rw[jrf,jg0,e0];cases ha:S.any (fun r=>cl n r.2 x.2)with
 |true=>rfl
 |false=>
  simp(disch:=omega)only[e1,ir,rs];rw[jlj];rfl
theorem ju9(a b:Nat)(hb:b≤9223372036854775807):quj (a:Int) (b:Int)=some (Nat.gcd a b:Int):=by
 have h:q6j ((a:Int),(b:Int))=some (.inl (Nat.gcd a b:Int)):=
  jhm (step:=fun s:Int×Int=>qag (R:=LR (Int×Int) Int Int) s.1 s.2 (fun a' =>some (.next a')) (fun e=>some (.done e)) (fun r=>some (.ret r))) id (fun a b=>by
   by_cases h:b=0
   ·subst h;simp(disch:=omega)only[qag,rs];rfl
   ·have h' :(b:Int)≠0:=by omega
    simp(disch:=omega)only[qag,qq6,rs];rw[if_neg h]) (b+1) a b many (by omega) (by unfold many;omega)
 unfold quj;rw[h];rfl
theorem j1w(x:Int)(h: -4611686018427387904≤x∧x≤4611686018427387904):xq x=some (x.natAbs:Int):=by
 unfold xq;by_cases h0:x<0
 ·simp(disch:=omega)only[rs];exact congrArg some (by omega)
 ·simp(disch:=omega)only[rs];exact congrArg some (by omega)
theorem jir(l:List Int)(hl:l.length≤1000000)(hb:BD l):wq l=some (vj (zn l) l):=by
 have e0:qi3 l (0,0)=some (.inl (zn l:Int)):=by
  unfold zn;refine a9 (fun i:Nat=>((gN (fn l) i:Int),(i:Int))) l.length (aw (by omega)) _ (fun i hi=> ?_) ?_ _ rfl
  ·have h1:=j1w _ (hb i);have hbi:=hb i;have h2:=ju9 (gN (fn l) i) (l.getD i 0).natAbs (by omega);simp(disch:=omega)only[pu,h1,h2,rs];rw[ag];rfl
  ·simp(disch:=omega)only[pu,rs]
 unfold wq;by_cases hg:(1:Int)<(zn l:Int)
 ·have e1:qi4 l (zn l:Int) (0,[]++l)=some (.inl (vj (zn l) l)):=by
   have e:vj (zn l:Int) l=bh l.length fun j=>if j<l.length then Int.tdiv (l.getD j 0) (zn l:Int)else l.getD j 0:=by
    unfold vj;rw[decide_eq_true hg,cond_true,jkc];exact bp fun j hj=>(if_pos hj).symm
   rw[e,List.nil_append];refine a9 (fun i:Nat=>((i:Int),bh l.length fun j=>if j<i then Int.tdiv (l.getD j 0) (zn l:Int)else l.getD j 0)) l.length (aw (by omega)) _ (fun i hi=> ?_) ?_ _ (by
    have:(bh l.length fun j=>if j<0 then Int.tdiv (l.getD j 0) (zn l:Int)else l.getD j 0)=l:=by
     conv=>rhs;rw[q5w l 0]
     exact bp fun j hj=>if_neg (by omega)
    simp only[this];rfl)
   ·have hd:=jlt (g:=(zn l:Int)) (hb i);have hg0:(zn l:Int)≠0:=by omega
    simp(disch:=omega)only[px,bn,qq6,rs];rw[ag,jji hi]
   ·simp(disch:=omega)only[px,rs]
  simp(disch:=omega)only[e0,e1,rs]
 ·have e:vj (zn l:Int) l=l:=by
   unfold vj;rw[decide_eq_false hg];rfl
  rw[e];simp(disch:=omega)only[e0,List.nil_append,rs]
theorem jw3(g:Int)(a b:List Int):vj g (a++b)=vj g a++vj g b:=by
 unfold vj;cases decide (1<g)<;>simp
theorem jqw(p q:br)(x y:Int)(h1:p.1.length≤q.1.length)(h2:p.2.length≤q.2.length)(l1:p.1.length≤1000)(l2:p.2.length≤1000)(hx: -558835200≤x∧x≤558835200)(hy: -558835200≤y∧y≤558835200)
  (ba:∀i,-558835200≤p.1.getD i 0∧p.1.getD i 0≤558835200) (bb:∀i,-558835200≤q.1.getD i 0∧q.1.getD i 0≤558835200) (bc:∀i,-558835200≤p.2.getD i 0∧p.2.getD i 0≤558835200) (bd:∀i,-558835200≤q.2.getD i 0∧q.2.getD i 0≤558835200):
  v7 (toR p) x (toR q) y=some (toR (qlo (qga x p.1 y q.1,qga x p.2 y q.2))):=by
 have e0:qpx x y p.1 p.2 q.1 q.2 [] [] (0,[])=some (.inl (qga x p.1 y q.1)):=by
  refine a9 (fun i:Nat=>((i:Int),bh i fun j=>x*p.1.getD j 0+y*q.1.getD j 0)) p.1.length (aw (by omega)) _ (fun i hi=> ?_) ?_ _ rfl
  ·have m1:=lj (a:=558835200) (b:=558835200) hx (ba i);have m2:=lj (a:=558835200) (b:=558835200) hy (bb i);rw[mm];simp(disch:=omega)only[uk,bn,rs];rw[ag]
  ·simp(disch:=omega)only[uk,rs];rfl
 have e1:qpy x y p.1 p.2 q.1 q.2 [] [] (0,qga x p.1 y q.1)=some (.inl (qga x p.1 y q.1++qga x p.2 y q.2)):=by
  refine a9 (fun i:Nat=>((i:Int),qga x p.1 y q.1++bh i fun j=>x*p.2.getD j 0+y*q.2.getD j 0)) p.2.length (aw (by omega)) _ (fun i hi=> ?_) ?_ _ (by simp)
  ·have m1:=lj (a:=558835200) (b:=558835200) hx (bc i);have m2:=lj (a:=558835200) (b:=558835200) hy (bd i);rw[mm,←List.append_assoc];simp(disch:=omega)only[ul,bn,qdi,List.length_append,rs];rw[ag]
  ·simp(disch:=omega)only[ul,rs];rfl
 have e2:=jir (qga x p.1 y q.1++qga x p.2 y q.2) (by rw[List.length_append,qdi,qdi];omega) (jpg (jj9 hx hy ba bb) (jj9 hx hy bc bd));unfold v7 qlo;simp only[];generalize zn (qga x p.1 y q.1++qga x p.2 y q.2)=g at e2⊢;rw[jw3]at e2;have k1:(vj (g:Int) (qga x p.1 y q.1)).length=p.1.length:=by rw[qrb,qdi]
 have k2:(vj (g:Int) (qga x p.2 y q.2)).length=p.2.length:=by rw[qrb,qdi]
 generalize vj (g:Int) (qga x p.1 y q.1)=U at e2 k1⊢;generalize vj (g:Int) (qga x p.2 y q.2)=V at e2 k2⊢;simp(disch:=omega)only[jrf,jg0,e0,e1,e2,List.length_append,rs];refine congrArg some ?_;unfold toR;rw[List.drop_zero,Nat.sub_zero,←k1,List.take_left',List.drop_left',List.take_of_length_le]
 ·omega
 ·rfl
 ·rfl
section
variable {n m c : Nat} {A : Nat → Nat → Int} (hA : ∀ i j, -1 ≤ A i j ∧ A i j ≤ 1) {L : List br} (hL : GoodE n m c A L) (hc : c < m) (hn : n ≤ 14) (hm : m ≤ 60) (hR : c ≤ 11 ∨ n ≤ 12)
include hA hL hc hn hm hR in
theorem j9b(cols:Int):qjc (rsE L) cols (c:Int) (0,[])=some (.inl (rsE (L.foldl (qqw n c) []))):=by
 have e:L.foldl (qqw n c) []=zS n c L L.length:=by unfold zS;rw[List.take_length]
 have hll:=zo hL hn;rw[e];refine a9 (fun i:Nat=>((i:Int),rsE (zS n c L i))) L.length (aw (by omega)) _ (fun i hi=> ?_) ?_ _ rfl
 ·have hr:L.getD i ([],[])∈L:=ao _ hi;have ho:=hL.row _ hr;have hI:=jzh hL hc i;have hlen:=quf hn hI;have h1:=ho.wid;have h2:=ho.len;have e2:zS n c L (i+1)=qqw n c (zS n c L i) (L.getD i ([],[])):=qgr _ _ _ _ _ hi;rw[e2];unfold qqw;by_cases h0:(L.getD i ([],[])).1.getD c 0=0
  ·have ha:=jh4 (n:=n) (by omega) (zS n c L i) (fun r hr=>(hI.all r hr).len) (by omega) (L.getD i ([],[])) h2;rw[decide_eq_true h0,cond_true];simp(disch:=omega)only[kg,ir,qmb,jrf,ha,rs];rw[ag]
  ·rw[decide_eq_false h0,cond_false];simp(disch:=omega)only[kg,ir,qmb,jrf,rs];rw[ag]
 ·simp(disch:=omega)only[kg,ir,rs]
include hA hL hc hn hm hR in
theorem j9c(cols:Int)(i:Nat)(hi:i<L.length){C:br→Prop}(S:List br)(hS:InvE n (RowOK n m (c+1) A) C S):
  qjd (rsE L) cols (c:Int) (i:Int) (0,rsE S)=some (.inl (rsE (L.foldl (qm2 n c (L.getD i ([],[]))) S))):=by
 have hpm:L.getD i ([],[])∈L:=ao _ hi;have e:L.foldl (qm2 n c (L.getD i ([],[]))) S=tS n c L (L.getD i ([],[])) S L.length:=by unfold tS;rw[List.take_length]
 have hll:=zo hL hn;rw[e];refine a9 (fun k:Nat=>((k:Int),rsE (tS n c L (L.getD i ([],[])) S k))) L.length (aw (by omega)) _ (fun k hk=> ?_) ?_ _ rfl
 ·have hq:L.getD k ([],[])∈L:=ao _ hk;have hop:=hL.row _ hpm;have hoq:=hL.row _ hq;have hI:=q2n hL hc hpm hS (L.take k) fun r hr=>List.mem_of_mem_take hr
  have hlen:(tS n c L (L.getD i ([],[])) S k).length≤16384:=quf hn hI;have p1:=hop.wid;have p2:=hop.len;have q1:=hoq.wid;have q2:=hoq.len;obtain⟨bp1,bp2⟩:=qmz hA hL hn hR hpm;obtain⟨bq1,bq2⟩:=qmz hA hL hn hR hq;have e2:tS n c L (L.getD i ([],[])) S (k+1)=qm2 n c (L.getD i ([],[])) (tS n c L (L.getD i ([],[])) S k) (L.getD k ([],[])):=qgr _ _ _ _ _ hk;have hall:=hI.all;rw[e2];unfold qm2;have hpc:=bp2 c;have hqc:=bq2 c;by_cases h0:0<(L.getD i ([],[])).1.getD c 0
  ·have d0:decide (0<(L.getD i ([],[])).1.getD c 0)=true:=decide_eq_true (by omega);rw[d0,Bool.true_and];by_cases h1:(L.getD k ([],[])).1.getD c 0<0
   ·have d1:decide ((L.getD k ([],[])).1.getD c 0<0)=true:=decide_eq_true (by omega);rw[d1,cond_true];have s1:v7 (toR (L.getD i ([],[]))) (0-(L.getD k ([],[])).1.getD c 0) (toR (L.getD k ([],[]))) ((L.getD i ([],[])).1.getD c 0)=some (toR (qq7 c (L.getD i ([],[])) (L.getD k ([],[])))):=by
     rw[Int.zero_sub];exact jqw _ _ _ _ (by omega) (by omega) (by omega) (by omega) (by omega) (by omega) bp2 bq2 (fun j=>by have:=bp1 j;omega) (fun j=>by have:=bq1 j;omega)
    have hco:=(jjc hop hoq hc h0 h1).1;have s2:=jh4 (n:=n) (by omega) (tS n c L (L.getD i ([],[])) S k) (fun r hr=>(hall r hr).len) (by omega) (qq7 c (L.getD i ([],[])) (L.getD k ([],[]))) hco.len;simp(disch:=omega)only[g9,l9,kh,ir,qmb,jrf,d1,s1,s2,rs];rw[ag]
   ·have d1:decide ((L.getD k ([],[])).1.getD c 0<0)=false:=decide_eq_false (by omega);rw[d1,cond_false];simp(disch:=omega)only[g9,l9,kh,ir,qmb,jrf,d1,rs];rw[ag]
  ·have d0:decide (0<(L.getD i ([],[])).1.getD c 0)=false:=decide_eq_false (by omega);rw[d0,Bool.false_and,cond_false];simp(disch:=omega)only[g9,l9,kh,ir,qmb,jrf,rs];rw[ag]
 ·simp(disch:=omega)only[g9,ir,rs]
include hA hL hc hn hm hR in
theorem j9d(cols:Int):qje (rsE L) cols (c:Int) (0,rsE (L.foldl (qqw n c) []))=some (.inl (rsE (qd1 n c L))):=by
 have e:qd1 n c L=wS n c L L.length:=by unfold wS qd1;rw[List.take_length]
 have hll:=zo hL hn;rw[e];refine a9 (fun i:Nat=>((i:Int),rsE (wS n c L i))) L.length (aw (by omega)) _ (fun i hi=> ?_) ?_ _ rfl
 ·have hI:=qq2 hL hc (L.take i) (fun r hr=>List.mem_of_mem_take hr) _ _ (qr8 hL hc L fun _ h=>h);have hI2:=qq2 hL hc (L.take (i+1)) (fun r hr=>List.mem_of_mem_take hr) _ _ (qr8 hL hc L fun _ h=>h);have hlen2:(wS n c L (i+1)).length≤16384:=quf hn hI2;have h1:=j9c hA hL hc hn hm hR cols i hi (wS n c L i) hI;have e2:wS n c L (i+1)=L.foldl (qm2 n c (L.getD i ([],[]))) (wS n c L i):=qgr (fun S p=>L.foldl (qm2 n c p) S) _ _ _ _ hi;rw[e2]at hlen2⊢;simp(disch:=omega)only[qb,ir,h1,rs];rw[ag]
 ·simp(disch:=omega)only[qb,ir,rs]
end
section
variable {n m : Nat} {A : Nat → Nat → Int} (hA : ∀ i j, -1 ≤ A i j ∧ A i j ≤ 1) (hn : n ≤ 14) (hm : m ≤ 14) (hs : m ≤ 12 ∨ n ≤ 12)
include hA hn hm hs in
theorem je9:i7 (m:Int) (rsE (fc n m A))=some (rsE (lb n m (fc n m A)),true,[]):=by
 have hL:qjf (m:Int) (rsE (fc n m A),0,[])=some (.inl (rsE (lb n m (fc n m A)),[])):=by
  refine a9 (fun c:Nat=>(rsE (lb n c (fc n m A)),(c:Int),([]:List Int))) m (aw (by omega)) _ (fun c hc=> ?_) ?_ _ rfl
  ·have hG:=qch (qh8 n m A) c (by omega);have h1:=j9b hA hG hc hn (by omega) (by omega) (m:Int);have h3:=j9d hA hG hc hn (by omega) (by omega) (m:Int);have e:lb n (c+1) (fc n m A)=qd1 n c (lb n c (fc n m A)):=by
    unfold lb;rw[List.range_succ,List.foldl_append];rfl
   rw[e];simp(disch:=omega)only[qc,h1,h3,rs];rw[ag]
  ·simp(disch:=omega)only[qc,rs]
 unfold i7;rw[hL];rfl
end
end Go.Proofs.YtclbndfjhjladaaGreat
