/-
  Flow: the reference's elimination is elimE too.
-/
import Derived.Test.YthakmiiaejhlbaaZ3F6
set_option linter.all false
namespace Go.Proofs.Ythakmiiaejhlbaa
open Go.K Go.M
theorem qt0 {n:Nat} (a b:List Int) (ha:a.length=n) (hb:b.length=n) (hn:n≤1000):q7g a b=some (qt n a b):=by
 subst ha
 have hL:qpd a b 0=some (bif qt a.length a b then .inl () else .inr false):=by
   unfold qt
   refine qgq (fun i:Nat=>(i:Int)) a.length (q11 (by omega)) (fun i=>decide (a.getD i 0=0)||!decide (b.getD i 0=0)) () false (fun i hi hp=>?_) (fun i hi hp=>?_) ?_
   · rw [Bool.or_eq_true,decide_eq_true_eq,Bool.not_eq_true',decide_eq_false_iff_not] at hp
     by_cases h1:a.getD i 0=0
     · simp (disch:=omega) only [q6n,ckB_ix,q7,q6,qd,ckB_mk,ckB_ne,bif_lt,q9,bif_le,qb,bif_eq,q8,bif_ne,qa,qc,q5,q4,bnd_ok,lk_inl,lk_inr,Int.toNat_natCast,decide_true]
       rw [qf]
     · have h2:=hp.resolve_left h1
       simp (disch:=omega) only [q6n,ckB_ix,q7,q6,qd,ckB_mk,ckB_ne,bif_lt,q9,bif_le,qb,bif_eq,q8,bif_ne,qa,qc,q5,q4,bnd_ok,lk_inl,lk_inr,Int.toNat_natCast,decide_true]
       rw [qf]
   · rw [Bool.or_eq_false_iff,decide_eq_false_iff_not,Bool.not_eq_false',decide_eq_true_eq] at hp
     obtain ⟨h1,h2⟩:=hp
     simp (disch:=omega) only [q6n,ckB_ix,q7,q6,qd,ckB_mk,ckB_ne,bif_lt,q9,bif_le,qb,bif_eq,q8,bif_ne,qa,qc,q5,q4,bnd_ok,lk_inl,lk_inr,Int.toNat_natCast,decide_true]
   · simp (disch:=omega) only [q6n,ckB_ix,q7,q6,qd,ckB_mk,ckB_ne,bif_lt,q9,bif_le,qb,bif_eq,q8,bif_ne,qa,qc,q5,q4,bnd_ok,lk_inl,lk_inr,Int.toNat_natCast,decide_true]
 unfold q7g
 rw [hL]
 cases qt a.length a b<;>rfl
abbrev RowR:Type:=q0
def toR (r:RowE):RowR:=(r.1,r.2,())
def rsE (S:List RowE):List RowR:=S.map toR
theorem rs_len (S:List RowE):(rsE S).length=S.length:=List.length_map _
theorem rs_at (S:List RowE) (i:Nat):(rsE S).getD i q0.z=toR (S.getD i ([],[])):=by
 unfold rsE
 rw [List.getD_eq_getElem?_getD,List.getElem?_map,List.getD_eq_getElem?_getD]
 cases S[i]? <;> rfl
theorem toR1 (r:RowE):(toR r).1=r.1:=rfl
theorem toR2 (r:RowE):(toR r).2.1=r.2:=rfl
theorem rs_app (S:List RowE) (x:RowE):rsE S++[toR x]=rsE (S++[x]):=by simp [rsE]
theorem qzt {n:Nat} (hn:n≤60) (S:List RowE) (hS:∀ r∈S,r.2.length=n) (hSl:S.length≤100000) (x:RowE) (hx:x.2.length=n):qhw (toR x) (rsE S)=some (rsE (addE n S x)):=by
 have e0:qv5 (rsE S) x.1 x.2 0=some (bif S.any (fun r=>qt n r.2 x.2) then .inr (rsE S) else .inl ()):=by
   refine q8m S ([],[]) (fun r=>qt n r.2 x.2) (rsE S) (by omega) (fun i hi=>?_) ?_
   · have hm:=qt0 (S.getD i ([],[])).2 x.2 (hS _ (qr _ hi)) hx (by omega)
     simp (disch:=omega) only [qfs,rs_len,rs_at,toR2,hm,ckB_ix,q7,q6,qd,ckB_mk,ckB_ne,bif_lt,q9,bif_le,qb,bif_eq,q8,bif_ne,qa,qc,q5,q4,bnd_ok,lk_inl,lk_inr,Int.toNat_natCast,decide_true]
     rw [qf]
     cases qt n (S.getD i ([],[])).2 x.2<;>rfl
   · simp (disch:=omega) only [qfs,rs_len,ckB_ix,q7,q6,qd,ckB_mk,ckB_ne,bif_lt,q9,bif_le,qb,bif_eq,q8,bif_ne,qa,qc,q5,q4,bnd_ok,lk_inl,lk_inr,Int.toNat_natCast,decide_true]
 have e1:qus (rsE S) x.1 x.2 (0,[])=some (.inl (rsE (keepE n x S))):=by
   have e:keepE n x S=keepE n x (S.take S.length):=by rw [List.take_length]
   rw [e]
   refine q1c (fun i:Nat=>((i:Int),rsE (keepE n x (S.take i)))) S.length (q11 (by omega)) _ (fun i hi=>?_) ?_ _ rfl
   · have hm:=qt0 x.2 (S.getD i ([],[])).2 hx (hS _ (qr _ hi)) (by omega)
     have hk:=qh3 n x S i
     rw [qsy n x S i hi]
     cases hw:qt n x.2 (S.getD i zE).2 with
     | true =>
       have hm:q7g x.2 (S.getD i ([],[])).2=some true:=by rw [hm]; exact congrArg some hw
       simp (disch:=omega) only [qc1,rs_len,rs_at,toR2,hm,Bool.not_true,ckB_ix,q7,q6,qd,ckB_mk,ckB_ne,bif_lt,q9,bif_le,qb,bif_eq,q8,bif_ne,qa,qc,q5,q4,bnd_ok,lk_inl,lk_inr,Int.toNat_natCast,decide_true]
       rw [qf]
     | false =>
       have hm:q7g x.2 (S.getD i ([],[])).2=some false:=by rw [hm]; exact congrArg some hw
       simp (disch:=omega) only [qc1,rs_len,rs_at,toR2,hm,Bool.not_false,ckB_ix,q7,q6,qd,ckB_mk,ckB_ne,bif_lt,q9,bif_le,qb,bif_eq,q8,bif_ne,qa,qc,q5,q4,bnd_ok,lk_inl,lk_inr,Int.toNat_natCast,decide_true]
       rw [qf,rs_app]
   · simp (disch:=omega) only [qc1,rs_len,ckB_ix,q7,q6,qd,ckB_mk,ckB_ne,bif_lt,q9,bif_le,qb,bif_eq,q8,bif_ne,qa,qc,q5,q4,bnd_ok,lk_inl,lk_inr,Int.toNat_natCast,decide_true]
 have hk:=qh3 n x S S.length
 rw [List.take_length] at hk
 unfold qhw addE
 rw [toR1,toR2,e0]
 cases ha:S.any (fun r=>qt n r.2 x.2) with
 | true => rfl
 | false =>
   simp (disch:=omega) only [e1,rs_len,ckB_ix,q7,q6,qd,ckB_mk,ckB_ne,bif_lt,q9,bif_le,qb,bif_eq,q8,bif_ne,qa,qc,q5,q4,bnd_ok,lk_inl,lk_inr,Int.toNat_natCast,decide_true]
   rw [rs_app]
   rfl
theorem q16g (a b:Nat) (hb:b≤9223372036854775807):qn1 (a:Int) (b:Int)=some (Nat.gcd a b:Int):=by
 have h:qva ((a:Int),(b:Int))=some (.inl (Nat.gcd a b:Int)) :=
   qz8 (step:=fun s:Int×Int=>qbf (R:=LR (Int×Int) Int Int) s.1 s.2 (fun a'=>some (.next a')) (fun e=>some (.done e)) (fun r=>some (.ret r))) id (fun a b=>by
     by_cases h:b=0
     · subst h
       simp (disch:=omega) only [qbf,ckB_ix,q7,q6,qd,ckB_mk,ckB_ne,bif_lt,q9,bif_le,qb,bif_eq,q8,bif_ne,qa,qc,q5,q4,bnd_ok,lk_inl,lk_inr,Int.toNat_natCast,decide_true]
       rfl
     · have h':(b:Int)≠0:=by omega
       simp (disch:=omega) only [qbf,ckB_ne,ckB_ix,q7,q6,qd,ckB_mk,ckB_ne,bif_lt,q9,bif_le,qb,bif_eq,q8,bif_ne,qa,qc,q5,q4,bnd_ok,lk_inl,lk_inr,Int.toNat_natCast,decide_true]
       rw [if_neg h]) (b+1) a b many (by omega) (by unfold many; omega)
 unfold qn1
 rw [h]; rfl
theorem q19m (x:Int) (h : -4611686018427387904≤x∧x≤4611686018427387904):qk0 x=some (x.natAbs:Int):=by
 unfold qk0
 by_cases h0:x < 0
 · simp (disch:=omega) only [ckB_ix,q7,q6,qd,ckB_mk,ckB_ne,bif_lt,q9,bif_le,qb,bif_eq,q8,bif_ne,qa,qc,q5,q4,bnd_ok,lk_inl,lk_inr,Int.toNat_natCast,decide_true]
   exact congrArg some (by omega)
 · simp (disch:=omega) only [ckB_ix,q7,q6,qd,ckB_mk,ckB_ne,bif_lt,q9,bif_le,qb,bif_eq,q8,bif_ne,qa,qc,q5,q4,bnd_ok,lk_inl,lk_inr,Int.toNat_natCast,decide_true]
   exact congrArg some (by omega)
theorem q10h (l:List Int) (hl:l.length≤1000000) (hb:BD l):qb4 l=some (divE (gcdE l) l):=by
 have e0:qjl l (0,0)=some (.inl (gcdE l:Int)):=by
   unfold gcdE
   refine q1c (fun i:Nat=>((gN (fn l) i:Int),(i:Int))) l.length (q11 (by omega)) _ (fun i hi=>?_) ?_ _ rfl
   · have h1:=q19m _ (hb i)
     have hbi:=hb i
     have h2:=q16g (gN (fn l) i) (l.getD i 0).natAbs (by omega)
     simp (disch:=omega) only [q8v,h1,h2,ckB_ix,q7,q6,qd,ckB_mk,ckB_ne,bif_lt,q9,bif_le,qb,bif_eq,q8,bif_ne,qa,qc,q5,q4,bnd_ok,lk_inl,lk_inr,Int.toNat_natCast,decide_true]
     rw [qf]
     rfl
   · simp (disch:=omega) only [q8v,ckB_ix,q7,q6,qd,ckB_mk,ckB_ne,bif_lt,q9,bif_le,qb,bif_eq,q8,bif_ne,qa,qc,q5,q4,bnd_ok,lk_inl,lk_inr,Int.toNat_natCast,decide_true]
 unfold qb4
 by_cases hg:(1:Int) < (gcdE l:Int)
 · have e1:qjk l (gcdE l:Int) (0,[]++l)=some (.inl (divE (gcdE l) l)):=by
     have e:divE (gcdE l:Int) l=tab l.length fun j=>if j < l.length then Int.tdiv (l.getD j 0) (gcdE l:Int) else l.getD j 0:=by
       unfold divE
       rw [decide_eq_true hg,cond_true,qxt]
       exact q8h fun j hj=>(if_pos hj).symm
     rw [e,List.nil_append]
     refine q1c (fun i:Nat=>((i:Int),tab l.length fun j=>if j < i then Int.tdiv (l.getD j 0) (gcdE l:Int) else l.getD j 0)) l.length (q11 (by omega)) _ (fun i hi=>?_) ?_ _ (by
       have:(tab l.length fun j=>if j < 0 then Int.tdiv (l.getD j 0) (gcdE l:Int) else l.getD j 0)=l:=by
         conv=>rhs; rw [tab_of l 0]
         exact q8h fun j hj=>if_neg (by omega)
       simp only [this]; rfl)
     · have hd:=qtt (g:=(gcdE l:Int)) (hb i)
       have hg0:(gcdE l:Int)≠0:=by omega
       simp (disch:=omega) only [q8u,q4g,ckB_ne,ckB_ix,q7,q6,qd,ckB_mk,ckB_ne,bif_lt,q9,bif_le,qb,bif_eq,q8,bif_ne,qa,qc,q5,q4,bnd_ok,lk_inl,lk_inr,Int.toNat_natCast,decide_true]
       rw [qf,qyi hi]
     · simp (disch:=omega) only [q8u,ckB_ix,q7,q6,qd,ckB_mk,ckB_ne,bif_lt,q9,bif_le,qb,bif_eq,q8,bif_ne,qa,qc,q5,q4,bnd_ok,lk_inl,lk_inr,Int.toNat_natCast,decide_true]
   simp (disch:=omega) only [e0,e1,ckB_ix,q7,q6,qd,ckB_mk,ckB_ne,bif_lt,q9,bif_le,qb,bif_eq,q8,bif_ne,qa,qc,q5,q4,bnd_ok,lk_inl,lk_inr,Int.toNat_natCast,decide_true]
 · have e:divE (gcdE l:Int) l=l:=by
     unfold divE
     rw [decide_eq_false hg]; rfl
   rw [e]
   simp (disch:=omega) only [e0,List.nil_append,ckB_ix,q7,q6,qd,ckB_mk,ckB_ne,bif_lt,q9,bif_le,qb,bif_eq,q8,bif_ne,qa,qc,q5,q4,bnd_ok,lk_inl,lk_inr,Int.toNat_natCast,decide_true]
theorem q17k (g:Int) (a b:List Int):divE g (a++b)=divE g a++divE g b:=by
 unfold divE
 cases decide (1 < g)<;>simp
theorem q14h (p q:RowE) (x y:Int) (h1:p.1.length≤q.1.length) (h2:p.2.length≤q.2.length) (l1:p.1.length≤1000) (l2:p.2.length≤1000) (hx : -558835200≤x∧x≤558835200) (hy : -558835200≤y∧y≤558835200)
   (ba:∀ i, -558835200≤p.1.getD i 0∧p.1.getD i 0≤558835200) (bb:∀ i, -558835200≤q.1.getD i 0∧q.1.getD i 0≤558835200) (bc:∀ i, -558835200≤p.2.getD i 0∧p.2.getD i 0≤558835200) (bd:∀ i, -558835200≤q.2.getD i 0∧q.2.getD i 0≤558835200) :
   qan (toR p) x (toR q) y=some (toR (normE (linE x p.1 y q.1,linE x p.2 y q.2))):=by
 have e0:qn6 x y p.1 p.2 q.1 q.2 [] [] (0,[])=some (.inl (linE x p.1 y q.1)):=by
   refine q1c (fun i:Nat=>((i:Int),tab i fun j=>x*p.1.getD j 0+y*q.1.getD j 0)) p.1.length (q11 (by omega)) _ (fun i hi=>?_) ?_ _ rfl
   · have m1:=q57 (a:=558835200) (b:=558835200) hx (ba i)
     have m2:=q57 (a:=558835200) (b:=558835200) hy (bb i)
     rw [qdu]
     simp (disch:=omega) only [qaa,q4g,ckB_ix,q7,q6,qd,ckB_mk,ckB_ne,bif_lt,q9,bif_le,qb,bif_eq,q8,bif_ne,qa,qc,q5,q4,bnd_ok,lk_inl,lk_inr,Int.toNat_natCast,decide_true]
     rw [qf]
   · simp (disch:=omega) only [qaa,ckB_ix,q7,q6,qd,ckB_mk,ckB_ne,bif_lt,q9,bif_le,qb,bif_eq,q8,bif_ne,qa,qc,q5,q4,bnd_ok,lk_inl,lk_inr,Int.toNat_natCast,decide_true]
     rfl
 have e1:qm6 x y p.1 p.2 q.1 q.2 [] [] (0,linE x p.1 y q.1)=some (.inl (linE x p.1 y q.1++linE x p.2 y q.2)):=by
   refine q1c (fun i:Nat=>((i:Int),linE x p.1 y q.1++tab i fun j=>x*p.2.getD j 0+y*q.2.getD j 0)) p.2.length (q11 (by omega)) _ (fun i hi=>?_) ?_ _ (by simp)
   · have m1:=q57 (a:=558835200) (b:=558835200) hx (bc i)
     have m2:=q57 (a:=558835200) (b:=558835200) hy (bd i)
     rw [qdu,← List.append_assoc]
     simp (disch:=omega) only [qaf,q4g,qas,List.length_append,ckB_ix,q7,q6,qd,ckB_mk,ckB_ne,bif_lt,q9,bif_le,qb,bif_eq,q8,bif_ne,qa,qc,q5,q4,bnd_ok,lk_inl,lk_inr,Int.toNat_natCast,decide_true]
     rw [qf]
   · simp (disch:=omega) only [qaf,ckB_ix,q7,q6,qd,ckB_mk,ckB_ne,bif_lt,q9,bif_le,qb,bif_eq,q8,bif_ne,qa,qc,q5,q4,bnd_ok,lk_inl,lk_inr,Int.toNat_natCast,decide_true]
     rfl
 have e2:=q10h (linE x p.1 y q.1++linE x p.2 y q.2) (by rw [List.length_append,qas,qas]; omega) (bd_app (lin_bd hx hy ba bb) (lin_bd hx hy bc bd))
 unfold qan normE
 simp only []
 generalize gcdE (linE x p.1 y q.1++linE x p.2 y q.2)=g at e2 ⊢
 rw [q17k] at e2
 have k1:(divE (g:Int) (linE x p.1 y q.1)).length=p.1.length:=by rw [ql8,qas]
 have k2:(divE (g:Int) (linE x p.2 y q.2)).length=p.2.length:=by rw [ql8,qas]
 generalize divE (g:Int) (linE x p.1 y q.1)=U at e2 k1 ⊢
 generalize divE (g:Int) (linE x p.2 y q.2)=V at e2 k2 ⊢
 simp (disch:=omega) only [toR1,toR2,e0,e1,e2,List.length_append,ckB_ix,q7,q6,qd,ckB_mk,ckB_ne,bif_lt,q9,bif_le,qb,bif_eq,q8,bif_ne,qa,qc,q5,q4,bnd_ok,lk_inl,lk_inr,Int.toNat_natCast,decide_true]
 refine congrArg some ?_
 unfold toR
 rw [List.drop_zero,Nat.sub_zero,← k1,List.take_left',List.drop_left',List.take_of_length_le]
 · omega
 · rfl
 · rfl
section
variable {n m c:Nat} {A:Nat→Nat→Int} (hA:∀ i j, -1≤A i j∧A i j≤1) {L:List RowE} (hL:GoodE n m c A L) (hc:c < m) (hn:n≤14) (hm:m≤60) (hR:c≤11∨n≤12)
include hA hL hc hn hm hR in
theorem rl0_eq (cols:Int):qjc (rsE L) cols (c:Int) (0,[])=some (.inl (rsE (L.foldl (oneE n c) []))):=by
 have e:L.foldl (oneE n c) []=zS n c L L.length:=by unfold zS; rw [List.take_length]
 have hll:=qby hL hn
 rw [e]
 refine q1c (fun i:Nat=>((i:Int),rsE (zS n c L i))) L.length (q11 (by omega)) _ (fun i hi=>?_) ?_ _ rfl
 · have hr:L.getD i ([],[])∈L:=qr _ hi
   have ho:=hL.row _ hr
   have hI:=zS_inv hL hc i
   have hlen:=qk7 hn hI
   have h1:=ho.wid
   have h2:=ho.len
   have e2:zS n c L (i+1)=oneE n c (zS n c L i) (L.getD i ([],[])):=qa7 _ _ _ _ _ hi
   rw [e2]
   unfold oneE
   by_cases h0:(L.getD i ([],[])).1.getD c 0=0
   · have ha:=qzt (n:=n) (by omega) (zS n c L i) (fun r hr=>(hI.all r hr).len) (by omega) (L.getD i ([],[])) h2
     rw [decide_eq_true h0,cond_true]
     simp (disch:=omega) only [q6g,rs_len,rs_at,toR1,ha,ckB_ix,q7,q6,qd,ckB_mk,ckB_ne,bif_lt,q9,bif_le,qb,bif_eq,q8,bif_ne,qa,qc,q5,q4,bnd_ok,lk_inl,lk_inr,Int.toNat_natCast,decide_true]
     rw [qf]
   · rw [decide_eq_false h0,cond_false]
     simp (disch:=omega) only [q6g,rs_len,rs_at,toR1,ckB_ix,q7,q6,qd,ckB_mk,ckB_ne,bif_lt,q9,bif_le,qb,bif_eq,q8,bif_ne,qa,qc,q5,q4,bnd_ok,lk_inl,lk_inr,Int.toNat_natCast,decide_true]
     rw [qf]
 · simp (disch:=omega) only [q6g,rs_len,ckB_ix,q7,q6,qd,ckB_mk,ckB_ne,bif_lt,q9,bif_le,qb,bif_eq,q8,bif_ne,qa,qc,q5,q4,bnd_ok,lk_inl,lk_inr,Int.toNat_natCast,decide_true]
include hA hL hc hn hm hR in
theorem rl2_eq (cols:Int) (i:Nat) (hi:i < L.length) {C:RowE→Prop} (S:List RowE) (hS:InvE n (RowOK n m (c+1) A) C S) :
   qjn (rsE L) cols (c:Int) (i:Int) (0,rsE S)=some (.inl (rsE (L.foldl (twoE n c (L.getD i ([],[]))) S))):=by
 have hpm:L.getD i ([],[])∈L:=qr _ hi
 have e:L.foldl (twoE n c (L.getD i ([],[]))) S=tS n c L (L.getD i ([],[])) S L.length:=by unfold tS; rw [List.take_length]
 have hll:=qby hL hn
 rw [e]
 refine q1c (fun k:Nat=>((k:Int),rsE (tS n c L (L.getD i ([],[])) S k))) L.length (q11 (by omega)) _ (fun k hk=>?_) ?_ _ rfl
 · have hq:L.getD k ([],[])∈L:=qr _ hk
   have hop:=hL.row _ hpm
   have hoq:=hL.row _ hq
   have hI:=qqa hL hc hpm hS (L.take k) fun r hr=>List.mem_of_mem_take hr
   have hlen:(tS n c L (L.getD i ([],[])) S k).length≤16384:=qk7 hn hI
   have p1:=hop.wid
   have p2:=hop.len
   have q1:=hoq.wid
   have q2:=hoq.len
   obtain ⟨bp1,bp2⟩:=qhs hA hL hn hR hpm
   obtain ⟨bq1,bq2⟩:=qhs hA hL hn hR hq
   have e2:tS n c L (L.getD i ([],[])) S (k+1)=twoE n c (L.getD i ([],[])) (tS n c L (L.getD i ([],[])) S k) (L.getD k ([],[])):=qa7 _ _ _ _ _ hk
   have hall:=hI.all
   rw [e2]
   unfold twoE
   have hpc:=bp2 c
   have hqc:=bq2 c
   by_cases h0:0 < (L.getD i ([],[])).1.getD c 0
   · have d0:decide (0 < (L.getD i ([],[])).1.getD c 0)=true:=decide_eq_true (by omega)
     rw [d0,Bool.true_and]
     by_cases h1:(L.getD k ([],[])).1.getD c 0 < 0
     · have d1:decide ((L.getD k ([],[])).1.getD c 0 < 0)=true:=decide_eq_true (by omega)
       rw [d1,cond_true]
       have s1:qan (toR (L.getD i ([],[]))) (0 - (L.getD k ([],[])).1.getD c 0) (toR (L.getD k ([],[]))) ((L.getD i ([],[])).1.getD c 0)=some (toR (combE c (L.getD i ([],[])) (L.getD k ([],[])))):=by
         rw [Int.zero_sub]
         exact q14h _ _ _ _ (by omega) (by omega) (by omega) (by omega) (by omega) (by omega) bp2 bq2 (fun j=>by have:=bp1 j; omega) (fun j=>by have:=bq1 j; omega)
       have hco:=(qxi hop hoq hc h0 h1).1
       have s2:=qzt (n:=n) (by omega) (tS n c L (L.getD i ([],[])) S k) (fun r hr=>(hall r hr).len) (by omega) (combE c (L.getD i ([],[])) (L.getD k ([],[]))) hco.len
       simp (disch:=omega) only [q4i,q70,q68,rs_len,rs_at,toR1,d1,s1,s2,ckB_ix,q7,q6,qd,ckB_mk,ckB_ne,bif_lt,q9,bif_le,qb,bif_eq,q8,bif_ne,qa,qc,q5,q4,bnd_ok,lk_inl,lk_inr,Int.toNat_natCast,decide_true]
       rw [qf]
     · have d1:decide ((L.getD k ([],[])).1.getD c 0 < 0)=false:=decide_eq_false (by omega)
       rw [d1,cond_false]
       simp (disch:=omega) only [q4i,q70,q68,rs_len,rs_at,toR1,d1,ckB_ix,q7,q6,qd,ckB_mk,ckB_ne,bif_lt,q9,bif_le,qb,bif_eq,q8,bif_ne,qa,qc,q5,q4,bnd_ok,lk_inl,lk_inr,Int.toNat_natCast,decide_true]
       rw [qf]
   · have d0:decide (0 < (L.getD i ([],[])).1.getD c 0)=false:=decide_eq_false (by omega)
     rw [d0,Bool.false_and,cond_false]
     simp (disch:=omega) only [q4i,q70,q68,rs_len,rs_at,toR1,ckB_ix,q7,q6,qd,ckB_mk,ckB_ne,bif_lt,q9,bif_le,qb,bif_eq,q8,bif_ne,qa,qc,q5,q4,bnd_ok,lk_inl,lk_inr,Int.toNat_natCast,decide_true]
     rw [qf]
 · simp (disch:=omega) only [q4i,rs_len,ckB_ix,q7,q6,qd,ckB_mk,ckB_ne,bif_lt,q9,bif_le,qb,bif_eq,q8,bif_ne,qa,qc,q5,q4,bnd_ok,lk_inl,lk_inr,Int.toNat_natCast,decide_true]
include hA hL hc hn hm hR in
theorem rl3_eq (cols:Int):qjb (rsE L) cols (c:Int) (0,rsE (L.foldl (oneE n c) []))=some (.inl (rsE (elimE n c L))):=by
 have e:elimE n c L=wS n c L L.length:=by unfold wS elimE; rw [List.take_length]
 have hll:=qby hL hn
 rw [e]
 refine q1c (fun i:Nat=>((i:Int),rsE (wS n c L i))) L.length (q11 (by omega)) _ (fun i hi=>?_) ?_ _ rfl
 · have hI:=qko hL hc (L.take i) (fun r hr=>List.mem_of_mem_take hr) _ _ (qlj hL hc L fun _ h=>h)
   have hI2:=qko hL hc (L.take (i+1)) (fun r hr=>List.mem_of_mem_take hr) _ _ (qlj hL hc L fun _ h=>h)
   have hlen2:(wS n c L (i+1)).length≤16384:=qk7 hn hI2
   have h1:=rl2_eq hA hL hc hn hm hR cols i hi (wS n c L i) hI
   have e2:wS n c L (i+1)=L.foldl (twoE n c (L.getD i ([],[]))) (wS n c L i):=qa7 (fun S p=>L.foldl (twoE n c p) S) _ _ _ _ hi
   rw [e2] at hlen2 ⊢
   simp (disch:=omega) only [q8r,rs_len,h1,ckB_ix,q7,q6,qd,ckB_mk,ckB_ne,bif_lt,q9,bif_le,qb,bif_eq,q8,bif_ne,qa,qc,q5,q4,bnd_ok,lk_inl,lk_inr,Int.toNat_natCast,decide_true]
   rw [qf]
 · simp (disch:=omega) only [q8r,rs_len,ckB_ix,q7,q6,qd,ckB_mk,ckB_ne,bif_lt,q9,bif_le,qb,bif_eq,q8,bif_ne,qa,qc,q5,q4,bnd_ok,lk_inl,lk_inr,Int.toNat_natCast,decide_true]
end
section
variable {n m:Nat} {A:Nat→Nat→Int} (hA:∀ i j, -1≤A i j∧A i j≤1) (hn:n≤14) (hm:m≤14) (hs:m≤12∨n≤12)
include hA hn hm hs in
theorem q14o:q8s (m:Int) (rsE (startE n m A))=some (rsE (elimsE n m (startE n m A)),true,[]):=by
 have hL:qja (m:Int) (rsE (startE n m A),0,[])=some (.inl (rsE (elimsE n m (startE n m A)),[])):=by
   refine q1c (fun c:Nat=>(rsE (elimsE n c (startE n m A)),(c:Int),([]:List Int))) m (q11 (by omega)) _ (fun c hc=>?_) ?_ _ rfl
   · have hG:=qf6 (qk4 n m A) c (by omega)
     have h1:=rl0_eq hA hG hc hn (by omega) (by omega) (m:Int)
     have h3:=rl3_eq hA hG hc hn (by omega) (by omega) (m:Int)
     have e:elimsE n (c+1) (startE n m A)=elimE n c (elimsE n c (startE n m A)):=by
       unfold elimsE
       rw [List.range_succ,List.foldl_append]
       rfl
     rw [e]
     simp (disch:=omega) only [q8k,h1,h3,ckB_ix,q7,q6,qd,ckB_mk,ckB_ne,bif_lt,q9,bif_le,qb,bif_eq,q8,bif_ne,qa,qc,q5,q4,bnd_ok,lk_inl,lk_inr,Int.toNat_natCast,decide_true]
     rw [qf]
   · simp (disch:=omega) only [q8k,ckB_ix,q7,q6,qd,ckB_mk,ckB_ne,bif_lt,q9,bif_le,qb,bif_eq,q8,bif_ne,qa,qc,q5,q4,bnd_ok,lk_inl,lk_inr,Int.toNat_natCast,decide_true]
 unfold q8s
 rw [hL]; rfl
end
end Go.Proofs.Ythakmiiaejhlbaa
