/-
  Flow: the program's elimination of a column.
-/
import Derived.Test.YthakmiiaejhlbaaZ8F4
set_option linter.all false
namespace Go.Proofs.Ythakmiiaejhlbaa
open Go.K Go.M
theorem fac11:fac 11=39916800:=by decide
theorem pow_n {n:Nat} (hn:n≤14):2 ^ n≤16384:=Nat.le_trans (Nat.pow_le_pow_right (by omega) hn) (by decide)
section
variable {n m c:Nat} {A:Nat→Nat→Int} (hA:∀ i j, -1≤A i j∧A i j≤1) {L:List RowE} (hL:GoodE n m c A L) (hc:c < m) (hn:n≤14) (hm:m≤60) (hR:c≤11∨n≤12)
include hA hL hn hR in
theorem qrg {r:RowE} (hr:r∈L):(∀ i,0≤r.2.getD i 0∧r.2.getD i 0≤39916800)∧∀ j, -558835200≤r.1.getD j 0∧r.1.getD j 0≤558835200:=by
 obtain ⟨h1,h2⟩:=q12l hA hL (R:=11) (by omega) hr
 rw [fac11] at h1 h2
 refine ⟨h1,fun j=>?_⟩
 have:=h2 j
 omega
include hL hn in
theorem qpy:L.length≤16384:=Nat.le_trans hL.pw.len (pow_n hn)
theorem qwr {C:RowE→Prop} {S:List RowE} (hn:n≤14) (h:InvE n (RowOK n m (c+1) A) C S):S.length≤16384:=Nat.le_trans h.pw.len (pow_n hn)
theorem lin_bd {x y:Int} {a b:List Int} (hx : -558835200≤x∧x≤558835200) (hy : -558835200≤y∧y≤558835200) (ha:∀ i, -558835200≤a.getD i 0∧a.getD i 0≤558835200) (hb:∀ i, -558835200≤b.getD i 0∧b.getD i 0≤558835200):BD (linE x a y b):=by
 intro i
 by_cases hi:i < a.length
 · have e:(linE x a y b).getD i 0=x*a.getD i 0+y*b.getD i 0:=fn_lin hi
   rw [e]
   have m1:=q9l (a:=558835200) (b:=558835200) hx (ha i)
   have m2:=q9l (a:=558835200) (b:=558835200) hy (hb i)
   omega
 · rw [List.getD_eq_getElem?_getD,List.getElem?_eq_none (by rw [qot]; omega)]
   show -4611686018427387904≤(0:Int)∧(0:Int)≤4611686018427387904
   omega
abbrev zS (n c:Nat) (L:List RowE) (i:Nat):List RowE:=(L.take i).foldl (oneE n c) []
theorem qmr {α β:Type} (f:β→α→β) (s:β) (L:List α) (d:α) (i:Nat) (hi:i < L.length):(L.take (i+1)).foldl f s=f ((L.take i).foldl f s) (L.getD i d):=by
 rw [qcw L i d hi,List.foldl_append]
 rfl
include hL hc in
theorem zS_inv (i:Nat):InvE n (RowOK n m (c+1) A) (fun x=>x∈L.take i∧x.1.getD c 0=0) (zS n c L i):=qtz hL hc (L.take i) fun r hr=>List.mem_of_mem_take hr
include hA hL hc hn hm hR in
theorem el0_eq:qfe (c:Int) (L.length:Int) (lfE L) (mdE L) (0,[],[])=some (.inl (lfE (L.foldl (oneE n c) []),mdE (L.foldl (oneE n c) []))):=by
 have e:L.foldl (oneE n c) []=zS n c L L.length:=by unfold zS; rw [List.take_length]
 have hll:=qpy hL hn
 rw [e]
 refine q1r (fun i:Nat=>((i:Int),lfE (zS n c L i),mdE (zS n c L i))) L.length (q13 (by omega)) _ (fun i hi=>?_) ?_ _ rfl
 · have hr:L.getD i ([],[])∈L:=qq _ hi
   have ho:=hL.row _ hr
   have hI:=zS_inv hL hc i
   have hlen:=qwr hn hI
   have h1:=ho.wid
   have h2:=ho.len
   obtain ⟨b1,b2⟩:=qrg hA hL hn hR hr
   have e2:zS n c L (i+1)=oneE n c (zS n c L i) (L.getD i ([],[])):=qmr _ _ _ _ _ hi
   rw [e2]
   unfold oneE
   by_cases h0:(L.getD i ([],[])).1.getD c 0=0
   · have hg:gcdE ((L.getD i ([],[])).1++(L.getD i ([],[])).2)≤1:=by
       rw [q10n (A:=A) h2 fun j hj=>ho.left j (by omega)]
       have:=ho.prim
       unfold Prim at this
       omega
     have ha:=add_eq (n:=n) (by omega) (zS n c L i) (fun r hr=>(hI.all r hr).len) (by omega) (L.getD i ([],[])) h2 (by omega) (fun j=>by have:=b2 j; omega) (fun j=>by have:=b1 j; omega) hg
     rw [decide_eq_true h0,cond_true]
     simp (disch:=omega) only [q4e,lf_len,md_len,lf_at,md_at,ha,ckB_ix,q6,q5,qc,ckB_mk,ckB_ne,bif_lt,q8,bif_le,qa,bif_eq,q9,bif_ne,q7,qb,q4,q0,bnd_ok,lk_inl,lk_inr,Int.toNat_natCast,decide_true]
     rw [qg]
   · rw [decide_eq_false h0,cond_false]
     simp (disch:=omega) only [q4e,lf_len,md_len,lf_at,md_at,ckB_ix,q6,q5,qc,ckB_mk,ckB_ne,bif_lt,q8,bif_le,qa,bif_eq,q9,bif_ne,q7,qb,q4,q0,bnd_ok,lk_inl,lk_inr,Int.toNat_natCast,decide_true]
     rw [qg]
 · simp (disch:=omega) only [q4e,ckB_ix,q6,q5,qc,ckB_mk,ckB_ne,bif_lt,q8,bif_le,qa,bif_eq,q9,bif_ne,q7,qb,q4,q0,bnd_ok,lk_inl,lk_inr,Int.toNat_natCast,decide_true]
abbrev tS (n c:Nat) (L:List RowE) (p:RowE) (S:List RowE) (k:Nat):List RowE:=(L.take k).foldl (twoE n c p) S
include hA hL hc hn hm hR in
theorem el1_eq (i:Nat) (hi:i < L.length) {C:RowE→Prop} (S:List RowE) (hS:InvE n (RowOK n m (c+1) A) C S) (v:Int) :
   qfb (c:Int) (i:Int) v (i:Int) (L.length:Int) (lfE L) (mdE L) (0,lfE S,mdE S)=some (.inl (lfE (L.foldl (twoE n c (L.getD i ([],[]))) S),mdE (L.foldl (twoE n c (L.getD i ([],[]))) S))):=by
 have hpm:L.getD i ([],[])∈L:=qq _ hi
 have e:L.foldl (twoE n c (L.getD i ([],[]))) S=tS n c L (L.getD i ([],[])) S L.length:=by unfold tS; rw [List.take_length]
 have hll:=qpy hL hn
 rw [e]
 refine q1r (fun k:Nat=>((k:Int),lfE (tS n c L (L.getD i ([],[])) S k),mdE (tS n c L (L.getD i ([],[])) S k))) L.length (q13 (by omega)) _ (fun k hk=>?_) ?_ _ rfl
 · have hq:L.getD k ([],[])∈L:=qq _ hk
   have hop:=hL.row _ hpm
   have hoq:=hL.row _ hq
   have hI:=qtt hL hc hpm hS (L.take k) fun r hr=>List.mem_of_mem_take hr
   have hI2:=qtt hL hc hpm hS (L.take (k+1)) fun r hr=>List.mem_of_mem_take hr
   have hlen:=qwr hn hI
   have hlen2:=qwr hn hI2
   have p1:=hop.wid
   have p2:=hop.len
   have q1:=hoq.wid
   have q2:=hoq.len
   obtain ⟨bp1,bp2⟩:=qrg hA hL hn hR hpm
   obtain ⟨bq1,bq2⟩:=qrg hA hL hn hR hq
   have e2:tS n c L (L.getD i ([],[])) S (k+1)=twoE n c (L.getD i ([],[])) (tS n c L (L.getD i ([],[])) S k) (L.getD k ([],[])):=qmr _ _ _ _ _ hk
   have hlen2:(tS n c L (L.getD i ([],[])) S (k+1)).length≤16384:=hlen2
   have hall:=hI.all
   have hlen:(tS n c L (L.getD i ([],[])) S k).length≤16384:=hlen
   rw [e2] at hlen2 ⊢
   unfold twoE at hlen2 ⊢
   have hpc:=bp2 c
   have hqc:=bq2 c
   by_cases h0:(L.getD i ([],[])).1.getD c 0≤0
   · have d0:decide (0 < (L.getD i ([],[])).1.getD c 0)=false:=decide_eq_false (by omega)
     rw [d0]
     simp (disch:=omega) only [q2v,lf_len,md_len,lf_at,md_at,ckB_ix,q6,q5,qc,ckB_mk,ckB_ne,bif_lt,q8,bif_le,qa,bif_eq,q9,bif_ne,q7,qb,q4,q0,bnd_ok,lk_inl,lk_inr,Int.toNat_natCast,decide_true]
     rw [qg]
     rfl
   · have d0:decide (0 < (L.getD i ([],[])).1.getD c 0)=true:=decide_eq_true (by omega)
     rw [d0] at hlen2 ⊢
     by_cases h1:(0:Int)≤(L.getD k ([],[])).1.getD c 0
     · have d1:decide ((L.getD k ([],[])).1.getD c 0 < 0)=false:=decide_eq_false (by omega)
       rw [d1]
       simp (disch:=omega) only [q2v,lf_len,md_len,lf_at,md_at,ckB_ix,q6,q5,qc,ckB_mk,ckB_ne,bif_lt,q8,bif_le,qa,bif_eq,q9,bif_ne,q7,qb,q4,q0,bnd_ok,lk_inl,lk_inr,Int.toNat_natCast,decide_true]
       rw [qg]
       rfl
     · have d1:decide ((L.getD k ([],[])).1.getD c 0 < 0)=true:=decide_eq_true (by omega)
       rw [d1] at hlen2 ⊢
       simp only [Bool.and_self,cond_true] at hlen2 ⊢
       unfold combE at hlen2 ⊢
       have s1:qf5 (0 - (L.getD k ([],[])).1.getD c 0) (L.getD i ([],[])).1 ((L.getD i ([],[])).1.getD c 0) (L.getD k ([],[])).1=some (rawE c (L.getD i ([],[])) (L.getD k ([],[]))).1:=by
         rw [Int.zero_sub]
         exact sum_eq _ _ _ _ (by omega) (by omega) (fun j=>by have:=bp2 j; have:=bq2 j; omega) (by omega) (by omega)
       have s2:qf5 (0 - (L.getD k ([],[])).1.getD c 0) (L.getD i ([],[])).2 ((L.getD i ([],[])).1.getD c 0) (L.getD k ([],[])).2=some (rawE c (L.getD i ([],[])) (L.getD k ([],[]))).2:=by
         rw [Int.zero_sub]
         exact sum_eq _ _ _ _ (by omega) (by omega) (fun j=>by have:=bp1 j; have:=bq1 j; omega) (by omega) (by omega)
       have r1:(rawE c (L.getD i ([],[])) (L.getD k ([],[]))).1.length=(L.getD i ([],[])).1.length:=qot _ _ _ _
       have r2:(rawE c (L.getD i ([],[])) (L.getD k ([],[]))).2.length=(L.getD i ([],[])).2.length:=qot _ _ _ _
       have s3:=q17b (n:=n) (by omega) (tS n c L (L.getD i ([],[])) S k) (fun r hr=>(hall r hr).len) (by omega) (rawE c (L.getD i ([],[])) (L.getD k ([],[]))) (by omega) (by omega)
         (lin_bd (by omega) hpc bp2 bq2) (lin_bd (by omega) hpc (fun j=>by have:=bp1 j; omega) (fun j=>by have:=bq1 j; omega))
       simp (disch:=omega) only [q2v,lf_len,md_len,lf_at,md_at,s1,s2,s3,ckB_ix,q6,q5,qc,ckB_mk,ckB_ne,bif_lt,q8,bif_le,qa,bif_eq,q9,bif_ne,q7,qb,q4,q0,bnd_ok,lk_inl,lk_inr,Int.toNat_natCast,decide_true]
       rw [qg]
 · simp (disch:=omega) only [q2v,ckB_ix,q6,q5,qc,ckB_mk,ckB_ne,bif_lt,q8,bif_le,qa,bif_eq,q9,bif_ne,q7,qb,q4,q0,bnd_ok,lk_inl,lk_inr,Int.toNat_natCast,decide_true]
abbrev wS (n c:Nat) (L:List RowE) (i:Nat):List RowE:=(L.take i).foldl (fun S p=>L.foldl (twoE n c p) S) (L.foldl (oneE n c) [])
include hA hL hc hn hm hR in
theorem el2_eq:qfj (c:Int) (L.length:Int) (lfE L) (mdE L) (0,lfE (L.foldl (oneE n c) []),mdE (L.foldl (oneE n c) []))=some (.inl (lfE (elimE n c L),mdE (elimE n c L))):=by
 have e:elimE n c L=wS n c L L.length:=by unfold wS elimE; rw [List.take_length]
 have hll:=qpy hL hn
 rw [e]
 refine q1r (fun i:Nat=>((i:Int),lfE (wS n c L i),mdE (wS n c L i))) L.length (q13 (by omega)) _ (fun i hi=>?_) ?_ _ rfl
 · have hI:=quc hL hc (L.take i) (fun r hr=>List.mem_of_mem_take hr) _ _ (qtz hL hc L fun _ h=>h)
   have h1:=el1_eq hA hL hc hn hm hR i hi (wS n c L i) hI (L.length:Int)
   have e2:wS n c L (i+1)=L.foldl (twoE n c (L.getD i ([],[]))) (wS n c L i):=qmr (fun S p=>L.foldl (twoE n c p) S) _ _ _ _ hi
   rw [e2]
   simp (disch:=omega) only [q6r,lf_len,h1,ckB_ix,q6,q5,qc,ckB_mk,ckB_ne,bif_lt,q8,bif_le,qa,bif_eq,q9,bif_ne,q7,qb,q4,q0,bnd_ok,lk_inl,lk_inr,Int.toNat_natCast,decide_true]
   rw [qg]
 · simp (disch:=omega) only [q6r,ckB_ix,q6,q5,qc,ckB_mk,ckB_ne,bif_lt,q8,bif_le,qa,bif_eq,q9,bif_ne,q7,qb,q4,q0,bnd_ok,lk_inl,lk_inr,Int.toNat_natCast,decide_true]
include hA hL hc hn hm hR in
theorem q16a:q8r (c:Int) (lfE L) (mdE L)=some (true,lfE (elimE n c L),mdE (elimE n c L)):=by
 unfold q8r
 rw [lf_len,el0_eq hA hL hc hn hm hR,bnd_ok,lk_inl,el2_eq hA hL hc hn hm hR]
 rfl
end
end Go.Proofs.Ythakmiiaejhlbaa
