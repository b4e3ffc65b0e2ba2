/-
  Flow: the program's elimination is elimE.
-/
import Derived.Test.YtclbndfjhjladaaGreatZ5PF3
set_option linter.all false
namespace Go.Proofs.YtclbndfjhjladaaGreat
open Go.K Go.M
abbrev zE:bz:=([],[])
def qbp(n:Nat)(x:bz)(S:List bz):List bz:=S.filter fun r=> !di n x.2 r.2
theorem q9p(n:Nat)(x:bz)(S:List bz)(i:Nat)(hi:i<S.length):qbp n x (S.take (i+1))=bif di n x.2 (S.getD i zE).2 then qbp n x (S.take i)else qbp n x (S.take i)++[S.getD i zE]:=by
 unfold qbp;rw[d7 S i zE hi,List.filter_append];cases h:di n x.2 (S.getD i zE).2 with
 |true=>rw[jy1 (p:=fun r:bz=> !di n x.2 r.2) (by simp only[h];rfl),List.append_nil];rfl
 |false=>rw[jy2 (p:=fun r:bz=> !di n x.2 r.2) (by simp only[h];rfl)];rfl
theorem qvb(n:Nat)(x:bz)(S:List bz)(i:Nat):(qbp n x (S.take i)).length≤S.length:=by
 unfold qbp;refine Nat.le_trans (List.length_filter_le _ _) ?_;rw[List.length_take];omega
theorem q51(S:List bz)(x:bz):lfE S++[x.1]=lfE (S++[x]):=by simp[lfE]
theorem q58(S:List bz)(x:bz):td S++[x.2]=td (S++[x]):=by simp[td]
section
variable {n : Nat} (hn : n ≤ 60) (S : List bz) (hS : ∀ r ∈ S, r.2.length = n) (hSl : S.length ≤ 100000) (x : bz) (hx : x.2.length = n)
include hn in
theorem q54{l:List Int}(h:l.length=n):nv l=some ((msk (fn l) n:Nat):Int):=by
 rw[jtm l (by omega),h]
include hn hS in
theorem qvl{i:Nat}(hi:i<S.length):nv (S.getD i zE).2=some ((msk (fn (S.getD i zE).2) n:Nat):Int):=q54 hn (hS _ (au zE hi))
include hn hS hSl in
theorem jn1(r0:Rw):qmy x.1 x.2 ((msk (fn x.2) n:Nat):Int) ((td S).length:Int) (td S) r0 0=some (bif S.any (fun r=>di n r.2 x.2)then .inr (r0,td S)else .inl ()):=by
 have e:S.any (fun r=>di n r.2 x.2)=(td S).any (fun m=>di n m x.2):=by unfold td;rw[List.any_map];rfl
 rw[e];refine na (td S) [] (fun m=>di n m x.2) (r0,td S) (by rw[jy];omega) (fun i hi=> ?_) ?_
 ·rw[jy]at hi;have hm:=qvl hn S hS hi;simp(disch:=omega)only[uj,jy,qno,hm,rs];rw[qi3 _ _ hn,ah];cases di n (S.getD i zE).2 x.2<;>rfl
 ·simp(disch:=omega)only[uj,rs]
include hn hS hSl in
theorem jn2:qmz x.1 x.2 ((msk (fn x.2) n:Nat):Int) (td S) ((td S).length:Int) (lfE S) (td S) (0,[],[])=some (.inl (lfE (qbp n x S),td (qbp n x S))):=by
 have e:qbp n x S=qbp n x (S.take S.length):=by rw[List.take_length]
 rw[e];refine cn (fun i:Nat=>((i:Int),lfE (qbp n x (S.take i)),td (qbp n x (S.take i)))) S.length (bc (by omega)) _ (fun i hi=> ?_) ?_ _ rfl
 ·have hm:=qvl hn S hS hi;have hk:=qvb n x S i;rw[q9p n x S i hi];have ha:=qi3 (n:=n) x.2 (S.getD i zE).2 hn;cases hw:di n x.2 (S.getD i zE).2 with
  |true=>
   rw[hw]at ha;simp(disch:=omega)only[nw,jy,qno,hm,ha,Bool.not_true,rs];rw[ah]
  |false=>
   rw[hw]at ha;simp(disch:=omega)only[nw,jy,qno,qd8,q52,hm,ha,Bool.not_false,rs];rw[ah,q51,q58]
 ·simp(disch:=omega)only[nw,jy,rs]
include hn hS hSl in
theorem jn3(r0:Rw):qje x.1 x.2 ((msk (fn x.2) n:Nat):Int) ((td S).length:Int) (td S) r0 (0,[],[])=some (bif S.any (fun r=>di n r.2 x.2)then .inr (r0,td S,[],[])else .inl ([],[])):=by
 have e:S.any (fun r=>di n r.2 x.2)= !(List.range S.length).all (fun i=> !di n (S.getD i zE).2 x.2):=by
  rw[jn6 S zE (fun r=> !di n r.2 x.2),Bool.eq_iff_iff];simp
 have h:=rb (step:=fun a:Int×List Int×List Int=>js (R:=LR (Int×List Int×List Int) (List Int×List Int) (Rw×Rw×List Int×List Int)) x.1 x.2 ((msk (fn x.2) n:Nat):Int) ((td S).length:Int) (td S) r0 a.1 a.2.1 a.2.2 (fun a' =>some (.next a')) (fun e=>some (.done e)) (fun r=>some (.ret r)))
  (fun i:Nat=>((i:Int),([]:List Int),([]:List Int))) S.length (bc (by omega)) (fun i=> !di n (S.getD i zE).2 x.2) ([],[]) (r0,td S,[],[]) (fun i hi hp=>by
   have hm:=qvl hn S hS hi;have ha:=qi3 (n:=n) (S.getD i zE).2 x.2 hn;rw[Bool.not_eq_true']at hp;rw[hp]at ha;simp(disch:=omega)only[js,jy,qno,hm,ha,rs];rw[ah]) (fun i hi hp=>by
   have hm:=qvl hn S hS hi;have ha:=qi3 (n:=n) (S.getD i zE).2 x.2 hn;rw[Bool.not_eq_false']at hp;rw[hp]at ha;simp(disch:=omega)only[js,jy,qno,hm,ha,rs]) (by simp(disch:=omega)only[js,jy,rs])
 refine h.trans ?_;rw[e];cases(List.range S.length).all (fun i=> !di n (S.getD i zE).2 x.2)<;>rfl
include hn hS hSl in
theorem jn4:qjf x.1 x.2 ((msk (fn x.2) n:Nat):Int) (td S) ((td S).length:Int) (lfE S) (td S) (0,[],[],[])=some (.inl (lfE (qbp n x S),td (qbp n x S),[])):=by
 have e:qbp n x S=qbp n x (S.take S.length):=by rw[List.take_length]
 rw[e];refine cn (fun i:Nat=>((i:Int),lfE (qbp n x (S.take i)),td (qbp n x (S.take i)),([]:List Int))) S.length (bc (by omega)) _ (fun i hi=> ?_) ?_ _ rfl
 ·have hm:=qvl hn S hS hi;have hk:=qvb n x S i;rw[q9p n x S i hi];have ha:=qi3 (n:=n) x.2 (S.getD i zE).2 hn;cases hw:di n x.2 (S.getD i zE).2 with
  |true=>
   rw[hw]at ha;simp(disch:=omega)only[mm,jy,qno,hm,ha,Bool.not_true,rs];rw[ah]
  |false=>
   rw[hw]at ha;simp(disch:=omega)only[mm,jy,qno,qd8,q52,hm,ha,Bool.not_false,rs];rw[ah,q51,q58]
 ·simp(disch:=omega)only[mm,jy,rs]
abbrev BD(l:List Int):Prop:=∀i,-4611686018427387904≤l.getD i 0∧l.getD i 0≤4611686018427387904
theorem joc{a b:List Int}(ha:BD a)(hb:BD b):BD (a++b):=by
 intro i;by_cases h:i<a.length
 ·have:=jbv (b:=b) h;unfold fn at this;rw[this];exact ha i
 ·have e:i=a.length+(i-a.length):=by omega
  have:=jbw (a:=a) (b:=b) (i:=i-a.length);unfold fn at this;rw[e,this];exact hb _
include hn hS hSl hx in
theorem jx7(hw:x.1.length≤1000)(h1:BD x.1)(h2:BD x.2)(hg:qtg (x.1++x.2)≤1):qcv x.1 x.2 (lfE S) (td S)=some (lfE (qs5 n S x),td (qs5 n S x)):=by
 have e1:=jpk (x.1++x.2) (by rw[List.length_append];omega) (joc h1 h2);have e2:=q54 hn hx;have e3:=jn1 hn S hS hSl x (lfE S);have e4:=jn2 hn S hS hSl x;have hk:=qvb n x S S.length;rw[List.take_length]at hk;unfold qcv qs5;cases ha:S.any (fun r=>di n r.2 x.2)with
 |true=>
  rw[ha]at e3;simp(disch:=omega)only[vp x.1 (by omega),e1,e2,e3,rs]
 |false=>
  rw[ha,jy]at e3;rw[jy]at e4;simp(disch:=omega)only[vp x.1 (by omega),e1,e2,e3,e4,qd8,jy,rs];rw[q51,q58];rfl
include hn hS hSl hx in
theorem jr6:ui x.1 x.2 (lfE S) (td S) [] []=some (bif S.any (fun r=>di n r.2 x.2)then .inr (lfE (qs5 n S x),td (qs5 n S x),[],[])else .inl (lfE (qs5 n S x),td (qs5 n S x),[],[])):=by
 have e2:=q54 hn hx;have e3:=jn3 hn S hS hSl x (lfE S);have e4:=jn4 hn S hS hSl x;have hk:=qvb n x S S.length;rw[List.take_length]at hk;unfold ui yz qs5;cases ha:S.any (fun r=>di n r.2 x.2)with
 |true=>
  rw[ha]at e3;simp(disch:=omega)only[e2,e3,rs]
 |false=>
  rw[ha,jy]at e3;rw[jy]at e4;simp(disch:=omega)only[e2,e3,e4,qd8,jy,rs];rw[q51,q58];rfl
end
theorem jr5{n:Nat}(hn:n≤60)(S:List bz)(hS:∀r∈S,r.2.length=n)(hSl:S.length≤100000)(y:bz)(hy:y.2.length=n)(hw:y.1.length≤1000)(h1:BD y.1)(h2:BD y.2):
  yx y.1 y.2 (lfE S) (td S)=some (lfE (qs5 n S (qp4 y)),td (qs5 n S (qp4 y)),[],[]):=by
 have e1:=jpk (y.1++y.2) (by rw[List.length_append];omega) (joc h1 h2);have e5:=jr6 hn S hS hSl (qp4 y) (by unfold qp4;rw[q4v];exact hy);unfold yx;by_cases hg:(1:Int)<(qtg (y.1++y.2):Int)
 ·have d1:=jsz y.1 (qtg (y.1++y.2):Int) hg (by omega) h1 y.2 (lfE S) (td S);have d2:=js0 y.2 (qtg (y.1++y.2):Int) hg (by omega) h2 (qob (qtg (y.1++y.2)) y.1) (lfE S) (td S);unfold qp4 at e5⊢;cases ha:S.any (fun r=>di n r.2 (qob (qtg (y.1++y.2):Int) y.2))with
  |true=>
   rw[ha]at e5;simp(disch:=omega)only[vp y.1 (by omega),e1,d1,d2,e5,qxp,rs]
  |false=>
   rw[ha]at e5;simp(disch:=omega)only[vp y.1 (by omega),e1,d1,d2,e5,qs6,rs]
 ·have n1:qp4 y=y:=by
   unfold qp4 qob;rw[decide_eq_false hg];rfl
  rw[n1]at e5⊢;cases ha:S.any (fun r=>di n r.2 y.2)with
  |true=>
   rw[ha]at e5;simp(disch:=omega)only[vp y.1 (by omega),e1,e5,qxp,rs]
  |false=>
   rw[ha]at e5;simp(disch:=omega)only[vp y.1 (by omega),e1,e5,qs6,rs]
end Go.Proofs.YtclbndfjhjladaaGreat
set_option linter.all false
namespace Go.Proofs.YtclbndfjhjladaaGreat
open Go.K Go.M
theorem j3b:fac 11=39916800:=by decide
theorem jvc{n:Nat}(hn:n≤14):2 ^ n≤16384:=Nat.le_trans (Nat.pow_le_pow_right (by omega) hn) (by decide)
section
variable {n m c : Nat} {A : Nat → Nat → Int} (hA : ∀ i j, -1 ≤ A i j ∧ A i j ≤ 1) {L : List bz} (hL : GoodE n m c A L) (hc : c < m) (hn : n ≤ 14) (hm : m ≤ 60) (hR : c ≤ 11 ∨ n ≤ 12)
include hA hL hn hR in
theorem q0n{r:bz}(hr:r∈L):(∀i,0≤r.2.getD i 0∧r.2.getD i 0≤39916800)∧∀j,-558835200≤r.1.getD j 0∧r.1.getD j 0≤558835200:=by
 obtain⟨h1,h2⟩:=jhq hA hL (R:=11) (by omega) hr;rw[j3b]at h1 h2;refine⟨h1,fun j=> ?_⟩;have:=h2 j;omega
include hL hn in
theorem qu7:L.length≤16384:=Nat.le_trans hL.pw.len (jvc hn)
theorem jb4{C:bz→Prop}{S:List bz}(hn:n≤14)(h:InvE n (RowOK n m (c+1) A) C S):S.length≤16384:=Nat.le_trans h.pw.len (jvc hn)
theorem jp0{x y:Int}{a b:List Int}(hx: -558835200≤x∧x≤558835200)(hy: -558835200≤y∧y≤558835200)(ha:∀i,-558835200≤a.getD i 0∧a.getD i 0≤558835200)(hb:∀i,-558835200≤b.getD i 0∧b.getD i 0≤558835200):BD (jcg x a y b):=by
 intro i;by_cases hi:i<a.length
 ·have e:(jcg x a y b).getD i 0=x*a.getD i 0+y*b.getD i 0:=jbx hi;rw[e];have m1:=oi (a:=558835200) (b:=558835200) hx (ha i);have m2:=oi (a:=558835200) (b:=558835200) hy (hb i);omega
 ·rw[List.getD_eq_getElem?_getD,List.getElem?_eq_none (by rw[qvi];omega)];show-4611686018427387904≤(0:Int)∧(0:Int)≤4611686018427387904;omega
abbrev zS(n c:Nat)(L:List bz)(i:Nat):List bz:=(L.take i).foldl (qzg n c) []
theorem qye{α β:Type}(f:β→α→β)(s:β)(L:List α)(d:α)(i:Nat)(hi:i<L.length):(L.take (i+1)).foldl f s=f ((L.take i).foldl f s) (L.getD i d):=by
 rw[d7 L i d hi,List.foldl_append];rfl
include hL hc in
theorem j2o(i:Nat):InvE n (RowOK n m (c+1) A) (fun x=>x∈L.take i∧x.1.getD c 0=0) (zS n c L i):=q6p hL hc (L.take i) fun r hr=>List.mem_of_mem_take hr
include hA hL hc hn hm hR in
theorem jyt:qbd (c:Int) (L.length:Int) (lfE L) (td L) (0,[],[])=some (.inl (lfE (L.foldl (qzg n c) []),td (L.foldl (qzg n c) []))):=by
 have e:L.foldl (qzg n c) []=zS n c L L.length:=by unfold zS;rw[List.take_length]
 have hll:=qu7 hL hn;rw[e];refine cn (fun i:Nat=>((i:Int),lfE (zS n c L i),td (zS n c L i))) L.length (bc (by omega)) _ (fun i hi=> ?_) ?_ _ rfl
 ·have hr:L.getD i ([],[])∈L:=au _ hi;have ho:=hL.row _ hr;have hI:=j2o hL hc i;have hlen:=jb4 hn hI;have h1:=ho.wid;have h2:=ho.len;obtain⟨b1,b2⟩:=q0n hA hL hn hR hr;have e2:zS n c L (i+1)=qzg n c (zS n c L i) (L.getD i ([],[])):=qye _ _ _ _ _ hi;rw[e2];unfold qzg;by_cases h0:(L.getD i ([],[])).1.getD c 0=0
  ·have hg:qtg ((L.getD i ([],[])).1++(L.getD i ([],[])).2)≤1:=by
    rw[jj0 (A:=A) h2 fun j hj=>ho.left j (by omega)];have:=ho.prim;unfold qre at this;omega
   have ha:=jx7 (n:=n) (by omega) (zS n c L i) (fun r hr=>(hI.all r hr).len) (by omega) (L.getD i ([],[])) h2 (by omega) (fun j=>by have:=b2 j;omega) (fun j=>by have:=b1 j;omega) hg;rw[decide_eq_true h0,cond_true];simp(disch:=omega)only[gn,qd8,jy,q52,qno,ha,rs];rw[ah]
  ·rw[decide_eq_false h0,cond_false];simp(disch:=omega)only[gn,qd8,jy,q52,qno,rs];rw[ah]
 ·simp(disch:=omega)only[gn,rs]
abbrev tS(n c:Nat)(L:List bz)(p:bz)(S:List bz)(k:Nat):List bz:=(L.take k).foldl (qxc n c p) S
include hA hL hc hn hm hR in
theorem jyu(i:Nat)(hi:i<L.length){C:bz→Prop}(S:List bz)(hS:InvE n (RowOK n m (c+1) A) C S)(v:Int):
  qbe (c:Int) (i:Int) v (i:Int) (L.length:Int) (lfE L) (td L) (0,lfE S,td S)=some (.inl (lfE (L.foldl (qxc n c (L.getD i ([],[]))) S),td (L.foldl (qxc n c (L.getD i ([],[]))) S))):=by
 have hpm:L.getD i ([],[])∈L:=au _ hi;have e:L.foldl (qxc n c (L.getD i ([],[]))) S=tS n c L (L.getD i ([],[])) S L.length:=by unfold tS;rw[List.take_length]
 have hll:=qu7 hL hn;rw[e];refine cn (fun k:Nat=>((k:Int),lfE (tS n c L (L.getD i ([],[])) S k),td (tS n c L (L.getD i ([],[])) S k))) L.length (bc (by omega)) _ (fun k hk=> ?_) ?_ _ rfl
 ·have hq:L.getD k ([],[])∈L:=au _ hk;have hop:=hL.row _ hpm;have hoq:=hL.row _ hq;have hI:=q7y hL hc hpm hS (L.take k) fun r hr=>List.mem_of_mem_take hr
  have hI2:=q7y hL hc hpm hS (L.take (k+1)) fun r hr=>List.mem_of_mem_take hr
  have hlen:=jb4 hn hI;have hlen2:=jb4 hn hI2;have p1:=hop.wid;have p2:=hop.len;have q1:=hoq.wid;have q2:=hoq.len;obtain⟨bp1,bp2⟩:=q0n hA hL hn hR hpm;obtain⟨bq1,bq2⟩:=q0n hA hL hn hR hq;have e2:tS n c L (L.getD i ([],[])) S (k+1)=qxc n c (L.getD i ([],[])) (tS n c L (L.getD i ([],[])) S k) (L.getD k ([],[])):=qye _ _ _ _ _ hk;have hlen2:(tS n c L (L.getD i ([],[])) S (k+1)).length≤16384:=hlen2;have hall:=hI.all;have hlen:(tS n c L (L.getD i ([],[])) S k).length≤16384:=hlen;rw[e2]at hlen2⊢;unfold qxc at hlen2⊢;have hpc:=bp2 c;have hqc:=bq2 c;by_cases h0:(L.getD i ([],[])).1.getD c 0≤0
  ·have d0:decide (0<(L.getD i ([],[])).1.getD c 0)=false:=decide_eq_false (by omega);rw[d0];simp(disch:=omega)only[eh,qd8,jy,q52,qno,rs];rw[ah];rfl
  ·have d0:decide (0<(L.getD i ([],[])).1.getD c 0)=true:=decide_eq_true (by omega);rw[d0]at hlen2⊢;by_cases h1:(0:Int)≤(L.getD k ([],[])).1.getD c 0
   ·have d1:decide ((L.getD k ([],[])).1.getD c 0<0)=false:=decide_eq_false (by omega);rw[d1];simp(disch:=omega)only[eh,qd8,jy,q52,qno,rs];rw[ah];rfl
   ·have d1:decide ((L.getD k ([],[])).1.getD c 0<0)=true:=decide_eq_true (by omega);rw[d1]at hlen2⊢;simp only[Bool.and_self,cond_true]at hlen2⊢;unfold quf at hlen2⊢;have s1:qf2 (0-(L.getD k ([],[])).1.getD c 0) (L.getD i ([],[])).1 ((L.getD i ([],[])).1.getD c 0) (L.getD k ([],[])).1=some (qtv c (L.getD i ([],[])) (L.getD k ([],[]))).1:=by
     rw[Int.zero_sub];exact jrm _ _ _ _ (by omega) (by omega) (fun j=>by have:=bp2 j;have:=bq2 j;omega) (by omega) (by omega)
    have s2:qf2 (0-(L.getD k ([],[])).1.getD c 0) (L.getD i ([],[])).2 ((L.getD i ([],[])).1.getD c 0) (L.getD k ([],[])).2=some (qtv c (L.getD i ([],[])) (L.getD k ([],[]))).2:=by
     rw[Int.zero_sub];exact jrm _ _ _ _ (by omega) (by omega) (fun j=>by have:=bp1 j;have:=bq1 j;omega) (by omega) (by omega)
    have r1:(qtv c (L.getD i ([],[])) (L.getD k ([],[]))).1.length=(L.getD i ([],[])).1.length:=qvi _ _ _ _;have r2:(qtv c (L.getD i ([],[])) (L.getD k ([],[]))).2.length=(L.getD i ([],[])).2.length:=qvi _ _ _ _;have s3:=jr5 (n:=n) (by omega) (tS n c L (L.getD i ([],[])) S k) (fun r hr=>(hall r hr).len) (by omega) (qtv c (L.getD i ([],[])) (L.getD k ([],[]))) (by omega) (by omega)
     (jp0 (by omega) hpc bp2 bq2) (jp0 (by omega) hpc (fun j=>by have:=bp1 j;omega) (fun j=>by have:=bq1 j;omega))
    simp(disch:=omega)only[eh,qd8,jy,q52,qno,s1,s2,s3,rs];rw[ah]
 ·simp(disch:=omega)only[eh,rs]
abbrev wS(n c:Nat)(L:List bz)(i:Nat):List bz:=(L.take i).foldl (fun S p=>L.foldl (qxc n c p) S) (L.foldl (qzg n c) [])
include hA hL hc hn hm hR in
theorem jyv:qbf (c:Int) (L.length:Int) (lfE L) (td L) (0,lfE (L.foldl (qzg n c) []),td (L.foldl (qzg n c) []))=some (.inl (lfE (qmu n c L),td (qmu n c L))):=by
 have e:qmu n c L=wS n c L L.length:=by unfold wS qmu;rw[List.take_length]
 have hll:=qu7 hL hn;rw[e];refine cn (fun i:Nat=>((i:Int),lfE (wS n c L i),td (wS n c L i))) L.length (bc (by omega)) _ (fun i hi=> ?_) ?_ _ rfl
 ·have hI:=q4f hL hc (L.take i) (fun r hr=>List.mem_of_mem_take hr) _ _ (q6p hL hc L fun _ h=>h);have h1:=jyu hA hL hc hn hm hR i hi (wS n c L i) hI (L.length:Int);have e2:wS n c L (i+1)=L.foldl (qxc n c (L.getD i ([],[]))) (wS n c L i):=qye (fun S p=>L.foldl (qxc n c p) S) _ _ _ _ hi;rw[e2];simp(disch:=omega)only[kb,qd8,h1,rs];rw[ah]
 ·simp(disch:=omega)only[kb,rs]
include hA hL hc hn hm hR in
theorem js5:nq (c:Int) (lfE L) (td L)=some (true,lfE (qmu n c L),td (qmu n c L)):=by
 unfold nq;rw[qd8,jyt hA hL hc hn hm hR,ax,lj,jyv hA hL hc hn hm hR];rfl
end
end Go.Proofs.YtclbndfjhjladaaGreat
