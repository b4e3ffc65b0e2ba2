/-
  Flow: the program's elimination of a column.
-/
import Derived.Test.YtclbndfjhjladaaGreatZ4F4
set_option linter.all false
namespace Go.Proofs.YtclbndfjhjladaaGreat
open Go.K Go.M
theorem j97:fac 11=39916800:=by decide
theorem j2s{n:Nat}(hn:n≤14):2 ^ n≤16384:=Nat.le_trans (Nat.pow_le_pow_right (by omega) hn) (by decide)
section
variable {n m c : Nat} {A : Nat → Nat → Int} (hA : ∀ i j, -1 ≤ A i j ∧ A i j ≤ 1) {L : List br} (hL : GoodE n m c A L) (hc : c < m) (hn : n ≤ 14) (hm : m ≤ 60) (hR : c ≤ 11 ∨ n ≤ 12)
include hA hL hn hR in
theorem qmz{r:br}(hr:r∈L):(∀i,0≤r.2.getD i 0∧r.2.getD i 0≤39916800)∧∀j,-558835200≤r.1.getD j 0∧r.1.getD j 0≤558835200:=by
 obtain⟨h1,h2⟩:=jp8 hA hL (R:=11) (by omega) hr;rw[j97]at h1 h2;refine⟨h1,fun j=> ?_⟩;have:=h2 j;omega
include hL hn in
theorem zo:L.length≤16384:=Nat.le_trans hL.pw.len (j2s hn)
theorem quf{C:br→Prop}{S:List br}(hn:n≤14)(h:InvE n (RowOK n m (c+1) A) C S):S.length≤16384:=Nat.le_trans h.pw.len (j2s hn)
theorem jj9{x y:Int}{a b:List Int}(hx: -558835200≤x∧x≤558835200)(hy: -558835200≤y∧y≤558835200)(ha:∀i,-558835200≤a.getD i 0∧a.getD i 0≤558835200)(hb:∀i,-558835200≤b.getD i 0∧b.getD i 0≤558835200):BD (qga x a y b):=by
 intro i;by_cases hi:i<a.length
 ·have e:(qga x a y b).getD i 0=x*a.getD i 0+y*b.getD i 0:=jjt hi;rw[e];have m1:=lj (a:=558835200) (b:=558835200) hx (ha i);have m2:=lj (a:=558835200) (b:=558835200) hy (hb i);omega
 ·rw[List.getD_eq_getElem?_getD,List.getElem?_eq_none (by rw[qdi];omega)];show-4611686018427387904≤(0:Int)∧(0:Int)≤4611686018427387904;omega
abbrev zS(n c:Nat)(L:List br)(i:Nat):List br:=(L.take i).foldl (qqw n c) []
theorem qgr{α β:Type}(f:β→α→β)(s:β)(L:List α)(d:α)(i:Nat)(hi:i<L.length):(L.take (i+1)).foldl f s=f ((L.take i).foldl f s) (L.getD i d):=by
 rw[ct L i d hi,List.foldl_append];rfl
include hL hc in
theorem jzh(i:Nat):InvE n (RowOK n m (c+1) A) (fun x=>x∈L.take i∧x.1.getD c 0=0) (zS n c L i):=qr8 hL hc (L.take i) fun r hr=>List.mem_of_mem_take hr
include hA hL hc hn hm hR in
theorem j56:qbv (c:Int) (L.length:Int) (lfE L) (mn L) (0,[],[])=some (.inl (lfE (L.foldl (qqw n c) []),mn (L.foldl (qqw n c) []))):=by
 have e:L.foldl (qqw n c) []=zS n c L L.length:=by unfold zS;rw[List.take_length]
 have hll:=zo hL hn;rw[e];refine a9 (fun i:Nat=>((i:Int),lfE (zS n c L i),mn (zS n c L i))) L.length (aw (by omega)) _ (fun i hi=> ?_) ?_ _ rfl
 ·have hr:L.getD i ([],[])∈L:=ao _ hi;have ho:=hL.row _ hr;have hI:=jzh hL hc i;have hlen:=quf hn hI;have h1:=ho.wid;have h2:=ho.len;obtain⟨b1,b2⟩:=qmz hA hL hn hR hr;have e2:zS n c L (i+1)=qqw n c (zS n c L i) (L.getD i ([],[])):=qgr _ _ _ _ _ hi;rw[e2];unfold qqw;by_cases h0:(L.getD i ([],[])).1.getD c 0=0
  ·have hg:zn ((L.getD i ([],[])).1++(L.getD i ([],[])).2)≤1:=by
    rw[jsc (A:=A) h2 fun j hj=>ho.left j (by omega)];have:=ho.prim;unfold qyi at this;omega
   have ha:=j5k (n:=n) (by omega) (zS n c L i) (fun r hr=>(hI.all r hr).len) (by omega) (L.getD i ([],[])) h2 (by omega) (fun j=>by have:=b2 j;omega) (fun j=>by have:=b1 j;omega) hg;rw[decide_eq_true h0,cond_true];simp(disch:=omega)only[fx,qe2,g8,jcq,qpf,ha,rs];rw[ag]
  ·rw[decide_eq_false h0,cond_false];simp(disch:=omega)only[fx,qe2,g8,jcq,qpf,rs];rw[ag]
 ·simp(disch:=omega)only[fx,rs]
abbrev tS(n c:Nat)(L:List br)(p:br)(S:List br)(k:Nat):List br:=(L.take k).foldl (qm2 n c p) S
include hA hL hc hn hm hR in
theorem j57(i:Nat)(hi:i<L.length){C:br→Prop}(S:List br)(hS:InvE n (RowOK n m (c+1) A) C S)(v:Int):
  qbw (c:Int) (i:Int) v (i:Int) (L.length:Int) (lfE L) (mn L) (0,lfE S,mn S)=some (.inl (lfE (L.foldl (qm2 n c (L.getD i ([],[]))) S),mn (L.foldl (qm2 n c (L.getD i ([],[]))) S))):=by
 have hpm:L.getD i ([],[])∈L:=ao _ hi;have e:L.foldl (qm2 n c (L.getD i ([],[]))) S=tS n c L (L.getD i ([],[])) S L.length:=by unfold tS;rw[List.take_length]
 have hll:=zo hL hn;rw[e];refine a9 (fun k:Nat=>((k:Int),lfE (tS n c L (L.getD i ([],[])) S k),mn (tS n c L (L.getD i ([],[])) S k))) L.length (aw (by omega)) _ (fun k hk=> ?_) ?_ _ rfl
 ·have hq:L.getD k ([],[])∈L:=ao _ hk;have hop:=hL.row _ hpm;have hoq:=hL.row _ hq;have hI:=q2n hL hc hpm hS (L.take k) fun r hr=>List.mem_of_mem_take hr
  have hI2:=q2n hL hc hpm hS (L.take (k+1)) fun r hr=>List.mem_of_mem_take hr
  have hlen:=quf hn hI;have hlen2:=quf hn hI2;have p1:=hop.wid;have p2:=hop.len;have q1:=hoq.wid;have q2:=hoq.len;obtain⟨bp1,bp2⟩:=qmz hA hL hn hR hpm;obtain⟨bq1,bq2⟩:=qmz hA hL hn hR hq;have e2:tS n c L (L.getD i ([],[])) S (k+1)=qm2 n c (L.getD i ([],[])) (tS n c L (L.getD i ([],[])) S k) (L.getD k ([],[])):=qgr _ _ _ _ _ hk;have hlen2:(tS n c L (L.getD i ([],[])) S (k+1)).length≤16384:=hlen2;have hall:=hI.all;have hlen:(tS n c L (L.getD i ([],[])) S k).length≤16384:=hlen;rw[e2]at hlen2⊢;unfold qm2 at hlen2⊢;have hpc:=bp2 c;have hqc:=bq2 c;by_cases h0:(L.getD i ([],[])).1.getD c 0≤0
  ·have d0:decide (0<(L.getD i ([],[])).1.getD c 0)=false:=decide_eq_false (by omega);rw[d0];simp(disch:=omega)only[d3,qe2,g8,jcq,qpf,rs];rw[ag];rfl
  ·have d0:decide (0<(L.getD i ([],[])).1.getD c 0)=true:=decide_eq_true (by omega);rw[d0]at hlen2⊢;by_cases h1:(0:Int)≤(L.getD k ([],[])).1.getD c 0
   ·have d1:decide ((L.getD k ([],[])).1.getD c 0<0)=false:=decide_eq_false (by omega);rw[d1];simp(disch:=omega)only[d3,qe2,g8,jcq,qpf,rs];rw[ag];rfl
   ·have d1:decide ((L.getD k ([],[])).1.getD c 0<0)=true:=decide_eq_true (by omega);rw[d1]at hlen2⊢;simp only[Bool.and_self,cond_true]at hlen2⊢;unfold qq7 at hlen2⊢;have s1:qg7 (0-(L.getD k ([],[])).1.getD c 0) (L.getD i ([],[])).1 ((L.getD i ([],[])).1.getD c 0) (L.getD k ([],[])).1=some (qxi c (L.getD i ([],[])) (L.getD k ([],[]))).1:=by
     rw[Int.zero_sub];exact jzb _ _ _ _ (by omega) (by omega) (fun j=>by have:=bp2 j;have:=bq2 j;omega) (by omega) (by omega)
    have s2:qg7 (0-(L.getD k ([],[])).1.getD c 0) (L.getD i ([],[])).2 ((L.getD i ([],[])).1.getD c 0) (L.getD k ([],[])).2=some (qxi c (L.getD i ([],[])) (L.getD k ([],[]))).2:=by
     rw[Int.zero_sub];exact jzb _ _ _ _ (by omega) (by omega) (fun j=>by have:=bp1 j;have:=bq1 j;omega) (by omega) (by omega)
    have r1:(qxi c (L.getD i ([],[])) (L.getD k ([],[]))).1.length=(L.getD i ([],[])).1.length:=qdi _ _ _ _;have r2:(qxi c (L.getD i ([],[])) (L.getD k ([],[]))).2.length=(L.getD i ([],[])).2.length:=qdi _ _ _ _;have s3:=jzr (n:=n) (by omega) (tS n c L (L.getD i ([],[])) S k) (fun r hr=>(hall r hr).len) (by omega) (qxi c (L.getD i ([],[])) (L.getD k ([],[]))) (by omega) (by omega)
     (jj9 (by omega) hpc bp2 bq2) (jj9 (by omega) hpc (fun j=>by have:=bp1 j;omega) (fun j=>by have:=bq1 j;omega))
    simp(disch:=omega)only[d3,qe2,g8,jcq,qpf,s1,s2,s3,rs];rw[ag]
 ·simp(disch:=omega)only[d3,rs]
abbrev wS(n c:Nat)(L:List br)(i:Nat):List br:=(L.take i).foldl (fun S p=>L.foldl (qm2 n c p) S) (L.foldl (qqw n c) [])
include hA hL hc hn hm hR in
theorem j58:qbx (c:Int) (L.length:Int) (lfE L) (mn L) (0,lfE (L.foldl (qqw n c) []),mn (L.foldl (qqw n c) []))=some (.inl (lfE (qd1 n c L),mn (qd1 n c L))):=by
 have e:qd1 n c L=wS n c L L.length:=by unfold wS qd1;rw[List.take_length]
 have hll:=zo hL hn;rw[e];refine a9 (fun i:Nat=>((i:Int),lfE (wS n c L i),mn (wS n c L i))) L.length (aw (by omega)) _ (fun i hi=> ?_) ?_ _ rfl
 ·have hI:=qq2 hL hc (L.take i) (fun r hr=>List.mem_of_mem_take hr) _ _ (qr8 hL hc L fun _ h=>h);have h1:=j57 hA hL hc hn hm hR i hi (wS n c L i) hI (L.length:Int);have e2:wS n c L (i+1)=L.foldl (qm2 n c (L.getD i ([],[]))) (wS n c L i):=qgr (fun S p=>L.foldl (qm2 n c p) S) _ _ _ _ hi;rw[e2];simp(disch:=omega)only[jj,qe2,h1,rs];rw[ag]
 ·simp(disch:=omega)only[jj,rs]
include hA hL hc hn hm hR in
theorem j0p:nc (c:Int) (lfE L) (mn L)=some (true,lfE (qd1 n c L),mn (qd1 n c L)):=by
 unfold nc;rw[qe2,j56 hA hL hc hn hm hR,au,mo,j58 hA hL hc hn hm hR];rfl
end
end Go.Proofs.YtclbndfjhjladaaGreat
