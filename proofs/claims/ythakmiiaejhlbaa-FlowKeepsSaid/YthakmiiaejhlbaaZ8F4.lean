/-
  Flow: the program's elimination is elimE.
-/
import Derived.Test.YthakmiiaejhlbaaZ8F3
set_option linter.all false
namespace Go.Proofs.Ythakmiiaejhlbaa
open Go.K Go.M
abbrev zE:RowE:=([],[])
def keepE (n:Nat) (x:RowE) (S:List RowE):List RowE:=S.filter fun r=>!q1a n x.2 r.2
theorem qxi (n:Nat) (x:RowE) (S:List RowE) (i:Nat) (hi:i < S.length):keepE n x (S.take (i+1))=bif q1a n x.2 (S.getD i zE).2 then keepE n x (S.take i) else keepE n x (S.take i)++[S.getD i zE]:=by
 unfold keepE
 rw [qcw S i zE hi,List.filter_append]
 cases h:q1a n x.2 (S.getD i zE).2 with
 | true => rw [filt_f (p:=fun r:RowE=>!q1a n x.2 r.2) (by simp only [h]; rfl),List.append_nil]; rfl
 | false => rw [filt_t (p:=fun r:RowE=>!q1a n x.2 r.2) (by simp only [h]; rfl)]; rfl
theorem qpg (n:Nat) (x:RowE) (S:List RowE) (i:Nat):(keepE n x (S.take i)).length≤S.length:=by
 unfold keepE
 refine Nat.le_trans (List.length_filter_le _ _) ?_
 rw [List.length_take]
 omega
theorem lf_app (S:List RowE) (x:RowE):lfE S++[x.1]=lfE (S++[x]):=by simp [lfE]
theorem md_app (S:List RowE) (x:RowE):mdE S++[x.2]=mdE (S++[x]):=by simp [mdE]
section
variable {n:Nat} (hn:n≤60) (S:List RowE) (hS:∀ r∈S,r.2.length=n) (hSl:S.length≤100000) (x:RowE) (hx:x.2.length=n)
include hn in
theorem qu3 {l:List Int} (h:l.length=n):q72 l=some ((msk (fn l) n:Nat):Int):=by
 rw [q15t l (by omega),h]
include hn hS in
theorem qoi {i:Nat} (hi:i < S.length):q72 (S.getD i zE).2=some ((msk (fn (S.getD i zE).2) n:Nat):Int):=qu3 hn (hS _ (qq zE hi))
include hn hS hSl in
theorem q15j (r0:Rw):qly x.1 x.2 ((msk (fn x.2) n:Nat):Int) ((mdE S).length:Int) (mdE S) r0 0=some (bif S.any (fun r=>q1a n r.2 x.2) then .inr (r0,mdE S) else .inl ()):=by
 have e:S.any (fun r=>q1a n r.2 x.2)=(mdE S).any (fun m=>q1a n m x.2):=by unfold mdE; rw [List.any_map]; rfl
 rw [e]
 refine qpc (mdE S) [] (fun m=>q1a n m x.2) (r0,mdE S) (by rw [md_len]; omega) (fun i hi=>?_) ?_
 · rw [md_len] at hi
   have hm:=qoi hn S hS hi
   simp (disch:=omega) only [qbh,md_len,md_at,hm,ckB_ix,q6,q5,qc,ckB_mk,ckB_ne,bif_lt,q8,bif_le,qa,bif_eq,q9,bif_ne,q7,qb,q4,q0,bnd_ok,lk_inl,lk_inr,Int.toNat_natCast,decide_true]
   rw [qit _ _ hn,qg]
   cases q1a n (S.getD i zE).2 x.2<;>rfl
 · simp (disch:=omega) only [qbh,ckB_ix,q6,q5,qc,ckB_mk,ckB_ne,bif_lt,q8,bif_le,qa,bif_eq,q9,bif_ne,q7,qb,q4,q0,bnd_ok,lk_inl,lk_inr,Int.toNat_natCast,decide_true]
include hn hS hSl in
theorem q14m:qmd x.1 x.2 ((msk (fn x.2) n:Nat):Int) (mdE S) ((mdE S).length:Int) (lfE S) (mdE S) (0,[],[])=some (.inl (lfE (keepE n x S),mdE (keepE n x S))):=by
 have e:keepE n x S=keepE n x (S.take S.length):=by rw [List.take_length]
 rw [e]
 refine q1r (fun i:Nat=>((i:Int),lfE (keepE n x (S.take i)),mdE (keepE n x (S.take i)))) S.length (q13 (by omega)) _ (fun i hi=>?_) ?_ _ rfl
 · have hm:=qoi hn S hS hi
   have hk:=qpg n x S i
   rw [qxi n x S i hi]
   have ha:=qit (n:=n) x.2 (S.getD i zE).2 hn
   cases hw:q1a n x.2 (S.getD i zE).2 with
   | true =>
     rw [hw] at ha
     simp (disch:=omega) only [q8l,md_len,md_at,hm,ha,Bool.not_true,ckB_ix,q6,q5,qc,ckB_mk,ckB_ne,bif_lt,q8,bif_le,qa,bif_eq,q9,bif_ne,q7,qb,q4,q0,bnd_ok,lk_inl,lk_inr,Int.toNat_natCast,decide_true]
     rw [qg]
   | false =>
     rw [hw] at ha
     simp (disch:=omega) only [q8l,md_len,md_at,lf_len,lf_at,hm,ha,Bool.not_false,ckB_ix,q6,q5,qc,ckB_mk,ckB_ne,bif_lt,q8,bif_le,qa,bif_eq,q9,bif_ne,q7,qb,q4,q0,bnd_ok,lk_inl,lk_inr,Int.toNat_natCast,decide_true]
     rw [qg,lf_app,md_app]
 · simp (disch:=omega) only [q8l,md_len,ckB_ix,q6,q5,qc,ckB_mk,ckB_ne,bif_lt,q8,bif_le,qa,bif_eq,q9,bif_ne,q7,qb,q4,q0,bnd_ok,lk_inl,lk_inr,Int.toNat_natCast,decide_true]
include hn hS hSl in
theorem q15l (r0:Rw):ql8 x.1 x.2 ((msk (fn x.2) n:Nat):Int) ((mdE S).length:Int) (mdE S) r0 (0,[],[])=some (bif S.any (fun r=>q1a n r.2 x.2) then .inr (r0,mdE S,[],[]) else .inl ([],[])):=by
 have e:S.any (fun r=>q1a n r.2 x.2)=!(List.range S.length).all (fun i=>!q1a n (S.getD i zE).2 x.2):=by
   rw [q157 S zE (fun r=>!q1a n r.2 x.2),Bool.eq_iff_iff]
   simp
 have h:=qky (step:=fun a:Int×List Int×List Int=>q5l (R:=LR (Int×List Int×List Int) (List Int×List Int) (Rw×Rw×List Int×List Int)) x.1 x.2 ((msk (fn x.2) n:Nat):Int) ((mdE S).length:Int) (mdE S) r0 a.1 a.2.1 a.2.2 (fun a'=>some (.next a')) (fun e=>some (.done e)) (fun r=>some (.ret r)))
   (fun i:Nat=>((i:Int),([]:List Int),([]:List Int))) S.length (q13 (by omega)) (fun i=>!q1a n (S.getD i zE).2 x.2) ([],[]) (r0,mdE S,[],[]) (fun i hi hp=>by
     have hm:=qoi hn S hS hi
     have ha:=qit (n:=n) (S.getD i zE).2 x.2 hn
     rw [Bool.not_eq_true'] at hp
     rw [hp] at ha
     simp (disch:=omega) only [q5l,md_len,md_at,hm,ha,ckB_ix,q6,q5,qc,ckB_mk,ckB_ne,bif_lt,q8,bif_le,qa,bif_eq,q9,bif_ne,q7,qb,q4,q0,bnd_ok,lk_inl,lk_inr,Int.toNat_natCast,decide_true]
     rw [qg]) (fun i hi hp=>by
     have hm:=qoi hn S hS hi
     have ha:=qit (n:=n) (S.getD i zE).2 x.2 hn
     rw [Bool.not_eq_false'] at hp
     rw [hp] at ha
     simp (disch:=omega) only [q5l,md_len,md_at,hm,ha,ckB_ix,q6,q5,qc,ckB_mk,ckB_ne,bif_lt,q8,bif_le,qa,bif_eq,q9,bif_ne,q7,qb,q4,q0,bnd_ok,lk_inl,lk_inr,Int.toNat_natCast,decide_true]) (by simp (disch:=omega) only [q5l,md_len,ckB_ix,q6,q5,qc,ckB_mk,ckB_ne,bif_lt,q8,bif_le,qa,bif_eq,q9,bif_ne,q7,qb,q4,q0,bnd_ok,lk_inl,lk_inr,Int.toNat_natCast,decide_true])
 refine h.trans ?_
 rw [e]
 cases (List.range S.length).all (fun i=>!q1a n (S.getD i zE).2 x.2)<;>rfl
include hn hS hSl in
theorem q15k:qka x.1 x.2 ((msk (fn x.2) n:Nat):Int) (mdE S) ((mdE S).length:Int) (lfE S) (mdE S) (0,[],[],[])=some (.inl (lfE (keepE n x S),mdE (keepE n x S),[])):=by
 have e:keepE n x S=keepE n x (S.take S.length):=by rw [List.take_length]
 rw [e]
 refine q1r (fun i:Nat=>((i:Int),lfE (keepE n x (S.take i)),mdE (keepE n x (S.take i)),([]:List Int))) S.length (q13 (by omega)) _ (fun i hi=>?_) ?_ _ rfl
 · have hm:=qoi hn S hS hi
   have hk:=qpg n x S i
   rw [qxi n x S i hi]
   have ha:=qit (n:=n) x.2 (S.getD i zE).2 hn
   cases hw:q1a n x.2 (S.getD i zE).2 with
   | true =>
     rw [hw] at ha
     simp (disch:=omega) only [q7q,md_len,md_at,hm,ha,Bool.not_true,ckB_ix,q6,q5,qc,ckB_mk,ckB_ne,bif_lt,q8,bif_le,qa,bif_eq,q9,bif_ne,q7,qb,q4,q0,bnd_ok,lk_inl,lk_inr,Int.toNat_natCast,decide_true]
     rw [qg]
   | false =>
     rw [hw] at ha
     simp (disch:=omega) only [q7q,md_len,md_at,lf_len,lf_at,hm,ha,Bool.not_false,ckB_ix,q6,q5,qc,ckB_mk,ckB_ne,bif_lt,q8,bif_le,qa,bif_eq,q9,bif_ne,q7,qb,q4,q0,bnd_ok,lk_inl,lk_inr,Int.toNat_natCast,decide_true]
     rw [qg,lf_app,md_app]
 · simp (disch:=omega) only [q7q,md_len,ckB_ix,q6,q5,qc,ckB_mk,ckB_ne,bif_lt,q8,bif_le,qa,bif_eq,q9,bif_ne,q7,qb,q4,q0,bnd_ok,lk_inl,lk_inr,Int.toNat_natCast,decide_true]
abbrev BD (l:List Int):Prop:=∀ i, -4611686018427387904≤l.getD i 0∧l.getD i 0≤4611686018427387904
theorem bd_app {a b:List Int} (ha:BD a) (hb:BD b):BD (a++b):=by
 intro i
 by_cases h:i < a.length
 · have:=qwq (b:=b) h
   unfold fn at this
   rw [this]; exact ha i
 · have e:i=a.length+(i - a.length):=by omega
   have:=qwa (a:=a) (b:=b) (i:=i - a.length)
   unfold fn at this
   rw [e,this]; exact hb _
include hn hS hSl hx in
theorem add_eq (hw:x.1.length≤1000) (h1:BD x.1) (h2:BD x.2) (hg:gcdE (x.1++x.2)≤1):qem x.1 x.2 (lfE S) (mdE S)=some (lfE (addE n S x),mdE (addE n S x)):=by
 have e1:=gcd_eq (x.1++x.2) (by rw [List.length_append]; omega) (bd_app h1 h2)
 have e2:=qu3 hn hx
 have e3:=q15j hn S hS hSl x (lfE S)
 have e4:=q14m hn S hS hSl x
 have hk:=qpg n x S S.length
 rw [List.take_length] at hk
 unfold qem addE
 cases ha:S.any (fun r=>q1a n r.2 x.2) with
 | true =>
   rw [ha] at e3
   simp (disch:=omega) only [qbc x.1 (by omega),e1,e2,e3,ckB_ix,q6,q5,qc,ckB_mk,ckB_ne,bif_lt,q8,bif_le,qa,bif_eq,q9,bif_ne,q7,qb,q4,q0,bnd_ok,lk_inl,lk_inr,Int.toNat_natCast,decide_true]
 | false =>
   rw [ha,md_len] at e3
   rw [md_len] at e4
   simp (disch:=omega) only [qbc x.1 (by omega),e1,e2,e3,e4,lf_len,md_len,ckB_ix,q6,q5,qc,ckB_mk,ckB_ne,bif_lt,q8,bif_le,qa,bif_eq,q9,bif_ne,q7,qb,q4,q0,bnd_ok,lk_inl,lk_inr,Int.toNat_natCast,decide_true]
   rw [lf_app,md_app]
   rfl
include hn hS hSl hx in
theorem q175:qbe x.1 x.2 (lfE S) (mdE S) [] []=some (bif S.any (fun r=>q1a n r.2 x.2) then .inr (lfE (addE n S x),mdE (addE n S x),[],[]) else .inl (lfE (addE n S x),mdE (addE n S x),[],[])):=by
 have e2:=qu3 hn hx
 have e3:=q15l hn S hS hSl x (lfE S)
 have e4:=q15k hn S hS hSl x
 have hk:=qpg n x S S.length
 rw [List.take_length] at hk
 unfold qbe qdp addE
 cases ha:S.any (fun r=>q1a n r.2 x.2) with
 | true =>
   rw [ha] at e3
   simp (disch:=omega) only [e2,e3,ckB_ix,q6,q5,qc,ckB_mk,ckB_ne,bif_lt,q8,bif_le,qa,bif_eq,q9,bif_ne,q7,qb,q4,q0,bnd_ok,lk_inl,lk_inr,Int.toNat_natCast,decide_true]
 | false =>
   rw [ha,md_len] at e3
   rw [md_len] at e4
   simp (disch:=omega) only [e2,e3,e4,lf_len,md_len,ckB_ix,q6,q5,qc,ckB_mk,ckB_ne,bif_lt,q8,bif_le,qa,bif_eq,q9,bif_ne,q7,qb,q4,q0,bnd_ok,lk_inl,lk_inr,Int.toNat_natCast,decide_true]
   rw [lf_app,md_app]
   rfl
end
theorem q17b {n:Nat} (hn:n≤60) (S:List RowE) (hS:∀ r∈S,r.2.length=n) (hSl:S.length≤100000) (y:RowE) (hy:y.2.length=n) (hw:y.1.length≤1000) (h1:BD y.1) (h2:BD y.2) :
   qcz y.1 y.2 (lfE S) (mdE S)=some (lfE (addE n S (normE y)),mdE (addE n S (normE y)),[],[]):=by
 have e1:=gcd_eq (y.1++y.2) (by rw [List.length_append]; omega) (bd_app h1 h2)
 have e5:=q175 hn S hS hSl (normE y) (by unfold normE; rw [qtq]; exact hy)
 unfold qcz
 by_cases hg:(1:Int) < (gcdE (y.1++y.2):Int)
 · have d1:=q16x y.1 (gcdE (y.1++y.2):Int) hg (by omega) h1 y.2 (lfE S) (mdE S)
   have d2:=q173 y.2 (gcdE (y.1++y.2):Int) hg (by omega) h2 (divE (gcdE (y.1++y.2)) y.1) (lfE S) (mdE S)
   unfold normE at e5 ⊢
   cases ha:S.any (fun r=>q1a n r.2 (divE (gcdE (y.1++y.2):Int) y.2)) with
   | true =>
     rw [ha] at e5
     simp (disch:=omega) only [qbc y.1 (by omega),e1,d1,d2,e5,q4,ckB_ix,q6,q5,qc,ckB_mk,ckB_ne,bif_lt,q8,bif_le,qa,bif_eq,q9,bif_ne,q7,qb,q4,q0,bnd_ok,lk_inl,lk_inr,Int.toNat_natCast,decide_true]
   | false =>
     rw [ha] at e5
     simp (disch:=omega) only [qbc y.1 (by omega),e1,d1,d2,e5,q0,ckB_ix,q6,q5,qc,ckB_mk,ckB_ne,bif_lt,q8,bif_le,qa,bif_eq,q9,bif_ne,q7,qb,q4,q0,bnd_ok,lk_inl,lk_inr,Int.toNat_natCast,decide_true]
 · have n1:normE y=y:=by
     unfold normE divE
     rw [decide_eq_false hg]
     rfl
   rw [n1] at e5 ⊢
   cases ha:S.any (fun r=>q1a n r.2 y.2) with
   | true =>
     rw [ha] at e5
     simp (disch:=omega) only [qbc y.1 (by omega),e1,e5,q4,ckB_ix,q6,q5,qc,ckB_mk,ckB_ne,bif_lt,q8,bif_le,qa,bif_eq,q9,bif_ne,q7,qb,q4,q0,bnd_ok,lk_inl,lk_inr,Int.toNat_natCast,decide_true]
   | false =>
     rw [ha] at e5
     simp (disch:=omega) only [qbc y.1 (by omega),e1,e5,q0,ckB_ix,q6,q5,qc,ckB_mk,ckB_ne,bif_lt,q8,bif_le,qa,bif_eq,q9,bif_ne,q7,qb,q4,q0,bnd_ok,lk_inl,lk_inr,Int.toNat_natCast,decide_true]
end Go.Proofs.Ythakmiiaejhlbaa
