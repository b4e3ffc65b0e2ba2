/-
  Flow: sums of products, bounds; the law FlowBounds.
-/
import Derived.Test.YthakmiiaejhlbaaZ3F9
set_option linter.all false
namespace Go.Proofs.Ythakmiiaejhlbaa
open Go.K Go.M
def dotE (a b:List Int):Int:=sumN (fun i=>a.getD i 0*b.getD i 0) a.length
theorem q168 {f:Nat→Int} {b:Int} (hb:0≤b) {n i:Nat} (hi:i≤n) (h:∀ k,k < n → -b≤f k∧f k≤b) : -((n:Int)*b)≤sumN f i∧sumN f i≤(n:Int)*b:=by
 have h1:=qpx i fun k hk=>h k (by omega)
 have h2:(i:Int)*b≤(n:Int)*b:=Int.mul_le_mul_of_nonneg_right (by omega) hb
 omega
section
variable (a b:List Int) (hab:a.length≤b.length) (ha:a.length≤1000) (ba:∀ i,0≤a.getD i 0∧a.getD i 0≤1048576) (bb:∀ i,i < a.length→0≤b.getD i 0∧b.getD i 0≤100)
include ba bb in
theorem qq2 (i:Nat) (hi:i < a.length):0≤a.getD i 0*b.getD i 0∧a.getD i 0*b.getD i 0≤104857600:=by
 have h1:=ba i
 have h2:=bb i hi
 have h3:=q57 (a:=1048576) (b:=100) (x:=a.getD i 0) (y:=b.getD i 0) (by omega) (by omega)
 exact ⟨Int.mul_nonneg h1.1 h2.1,by omega⟩
include ba bb ha in
theorem qkp (i:Nat) (hi:i≤a.length):0≤sumN (fun k=>a.getD k 0*b.getD k 0) i∧sumN (fun k=>a.getD k 0*b.getD k 0) i≤104857600000:=by
 have h1:=q168 (f:=fun k=>a.getD k 0*b.getD k 0) (b:=104857600) (by omega) hi fun k hk=>by
   have:=qq2 a b ba bb k hk
   show -104857600≤a.getD k 0*b.getD k 0∧a.getD k 0*b.getD k 0≤104857600
   omega
 have h2:(a.length:Int)*104857600≤1000*104857600:=Int.mul_le_mul_of_nonneg_right (by omega) (by omega)
 refine ⟨qvd fun k hk=>(qq2 a b ba bb k (by omega)).1,by omega⟩
include hab ha ba bb in
theorem dot_eq:qlb a b=some (dotE a b):=by
 have hL:qxb a b (a.length:Int) (0,0)=some (.inl (dotE a b)):=by
   refine q1c (fun i:Nat=>(sumN (fun k=>a.getD k 0*b.getD k 0) i,(i:Int))) a.length (q11 (by omega)) _ (fun i hi=>?_) ?_ _ rfl
   · have h1:=qkp a b ha ba bb i (by omega)
     have h2:=qkp a b ha ba bb (i+1) (by omega)
     have h3:=qq2 a b ba bb i hi
     have e:sumN (fun k=>a.getD k 0*b.getD k 0) (i+1)=sumN (fun k=>a.getD k 0*b.getD k 0) i+a.getD i 0*b.getD i 0:=rfl
     rw [e] at h2 ⊢
     simp (disch:=omega) only [qhk,ckB_ix,q7,q6,qd,ckB_mk,ckB_ne,bif_lt,q9,bif_le,qb,bif_eq,q8,bif_ne,qa,qc,q5,q4,bnd_ok,lk_inl,lk_inr,Int.toNat_natCast,decide_true]
     rw [qf]
   · simp (disch:=omega) only [qhk,ckB_ix,q7,q6,qd,ckB_mk,ckB_ne,bif_lt,q9,bif_le,qb,bif_eq,q8,bif_ne,qa,qc,q5,q4,bnd_ok,lk_inl,lk_inr,Int.toNat_natCast,decide_true]
     rfl
 unfold qlb
 rw [hL]; rfl
include hab ha ba bb in
theorem q167:qmk a b=some (dotE a b):=by
 have hL:quj a b (0,0)=some (.inl (dotE a b)):=by
   refine q1c (fun i:Nat=>(sumN (fun k=>a.getD k 0*b.getD k 0) i,(i:Int))) a.length (q11 (by omega)) _ (fun i hi=>?_) ?_ _ rfl
   · have h1:=qkp a b ha ba bb i (by omega)
     have h2:=qkp a b ha ba bb (i+1) (by omega)
     have h3:=qq2 a b ba bb i hi
     have e:sumN (fun k=>a.getD k 0*b.getD k 0) (i+1)=sumN (fun k=>a.getD k 0*b.getD k 0) i+a.getD i 0*b.getD i 0:=rfl
     rw [e] at h2 ⊢
     simp (disch:=omega) only [qfh,ckB_ix,q7,q6,qd,ckB_mk,ckB_ne,bif_lt,q9,bif_le,qb,bif_eq,q8,bif_ne,qa,qc,q5,q4,bnd_ok,lk_inl,lk_inr,Int.toNat_natCast,decide_true]
     rw [qf]
   · simp (disch:=omega) only [qfh,ckB_ix,q7,q6,qd,ckB_mk,ckB_ne,bif_lt,q9,bif_le,qb,bif_eq,q8,bif_ne,qa,qc,q5,q4,bnd_ok,lk_inl,lk_inr,Int.toNat_natCast,decide_true]
     rfl
 unfold qmk
 rw [hL]; rfl
end
theorem q155 {n:Net} (h:Small n) (m:List Int) (hm:m.length≤1000000):qbs n m=some (validN n&&markB n.1 m):=by
 unfold qbs
 rw [q14y h m hm]
 cases validN n&&markB n.1 m<;>rfl
def bstep (m:List Int) (p:Nat) (best:Int) (y:List Int):Int:=if y.getD p 0=0 then best else if best < 0 then Int.tdiv (dotE y m) (y.getD p 0) else if Int.tdiv (dotE y m) (y.getD p 0) < best then Int.tdiv (dotE y m) (y.getD p 0) else best
def bestE (m:List Int) (p:Nat) (d:Rw):Int:=d.foldl (bstep m p) (-1)
def boO (n:Net) (m:List Int) (place:Int):Int×Int :=
 bif !(validN n&&markB n.1 m) then (0,1) else bif decide (place < 0) then (0,2) else bif decide (n.1≤place) then (0,2) else bif !decide ((outP n).2=0) then (0,(outP n).2) else
   bif decide (bestE m place.toNat (outP n).1 < 0) then (0,30) else (bestE m place.toNat (outP n).1,0)
section
variable {n:Net} (h:Small n) (hf:FewN n) (m:List Int) (hm:markB n.1 m=true) (p:Nat) (hp:(p:Int) < n.1) (he:(outP n).2=0)
include hm he hf in
theorem qrt {y:List Int} (hy:y∈(outP n).1):y.length≤m.length∧y.length=n.1.toNat∧y.length≤12∧(∀ i,0≤y.getD i 0∧y.getD i 0≤1048576)∧(∀ i,i < y.length→0≤m.getD i 0∧m.getD i 0≤100):=by
 have ho:=(qxm (n:=n)).row y hy
 obtain ⟨h1,h2⟩:=qyx.1 hm
 obtain ⟨_,_,f1,f2,_⟩:=q16e hf he
 refine ⟨by omega,ho.1,by omega,ho.2,fun i hi=>h2 i (by omega)⟩
include hm he hf in
theorem quo_nn {y:List Int} (hy:y∈(outP n).1):0≤Int.tdiv (dotE y m) (y.getD p 0)∧Int.tdiv (dotE y m) (y.getD p 0)≤104857600000:=by
 obtain ⟨r1,r2,r3,r4,r5⟩:=qrt hf m hm he hy
 have h1:=qkp y m (by omega) r4 r5 y.length (Nat.le_refl _)
 have h1:0≤dotE y m∧dotE y m≤104857600000:=h1
 have h2:=qtt (x:=dotE y m) (g:=y.getD p 0) (b:=104857600000) (by omega)
 exact ⟨Int.tdiv_nonneg h1.1 (r4 p).1,h2.2⟩
include hm he hf in
theorem qyr:∀ (l:Rw),(∀ y∈l,y∈(outP n).1)→∀ b:Int,(-1≤b∧b≤104857600000) → -1≤l.foldl (bstep m p) b∧l.foldl (bstep m p) b≤104857600000
 | [], _, b, hb => hb
 | y :: l, hl, b, hb => by
   rw [List.foldl_cons]
   refine qyr l (fun z hz=>hl z (List.mem_cons_of_mem _ hz)) _ ?_
   have hq:=quo_nn hf m hm p he (hl y List.mem_cons_self)
   unfold bstep
   repeat' split
   all_goals omega
include h hm hp he hf in
theorem bo_eq:qro m (p:Int) (outP n).1 ((outP n).1.length:Int) (-1,0)=some (.inl (bestE m p (outP n).1)):=by
 have hlen:=(qxm (n:=n)).len
 have e:bestE m p (outP n).1=bestE m p ((outP n).1.take (outP n).1.length):=by rw [List.take_length]
 rw [e]
 refine q1c (fun i:Nat=>(bestE m p ((outP n).1.take i),(i:Int))) (outP n).1.length (q11 (by omega)) _ (fun i hi=>?_) ?_ _ rfl
 · have hy:=qr [] hi
   obtain ⟨r1,r2,r3,r4,r5⟩:=qrt hf m hm he hy
   have hq:=quo_nn hf m hm p he hy
   have hd:=dot_eq _ m r1 (by omega) r4 r5
   have hb : -1≤bestE m p ((outP n).1.take i)∧bestE m p ((outP n).1.take i)≤104857600000:=qyr hf m hm p he _ (fun y hy=>List.mem_of_mem_take hy) _ (by omega)
   have e2:bestE m p ((outP n).1.take (i+1))=bstep m p (bestE m p ((outP n).1.take i)) ((outP n).1.getD i []):=qa7 _ _ _ _ _ hi
   rw [e2]
   unfold bstep
   by_cases h0:((outP n).1.getD i []).getD p 0=0
   · rw [if_pos h0]
     simp (disch:=omega) only [q5l,ckB_ix,q7,q6,qd,ckB_mk,ckB_ne,bif_lt,q9,bif_le,qb,bif_eq,q8,bif_ne,qa,qc,q5,q4,bnd_ok,lk_inl,lk_inr,Int.toNat_natCast,decide_true]
     rw [qf]
   · rw [if_neg h0]
     by_cases h1:bestE m p ((outP n).1.take i) < 0
     · rw [if_pos h1]
       simp (disch:=omega) only [q5l,hd,ckB_ne,ckB_ix,q7,q6,qd,ckB_mk,ckB_ne,bif_lt,q9,bif_le,qb,bif_eq,q8,bif_ne,qa,qc,q5,q4,bnd_ok,lk_inl,lk_inr,Int.toNat_natCast,decide_true]
       rw [qf]
     · rw [if_neg h1]
       by_cases h2:Int.tdiv (dotE ((outP n).1.getD i []) m) (((outP n).1.getD i []).getD p 0) < bestE m p ((outP n).1.take i)
       · rw [if_pos h2]
         simp (disch:=omega) only [q5l,hd,ckB_ne,ckB_ix,q7,q6,qd,ckB_mk,ckB_ne,bif_lt,q9,bif_le,qb,bif_eq,q8,bif_ne,qa,qc,q5,q4,bnd_ok,lk_inl,lk_inr,Int.toNat_natCast,decide_true]
         rw [qf]
       · rw [if_neg h2]
         simp (disch:=omega) only [q5l,hd,ckB_ne,ckB_ix,q7,q6,qd,ckB_mk,ckB_ne,bif_lt,q9,bif_le,qb,bif_eq,q8,bif_ne,qa,qc,q5,q4,bnd_ok,lk_inl,lk_inr,Int.toNat_natCast,decide_true]
         rw [qf]
 · simp (disch:=omega) only [q5l,ckB_ix,q7,q6,qd,ckB_mk,ckB_ne,bif_lt,q9,bif_le,qb,bif_eq,q8,bif_ne,qa,qc,q5,q4,bnd_ok,lk_inl,lk_inr,Int.toNat_natCast,decide_true]
include h hm hp he hf in
theorem rbo_eq:qre m (p:Int) (outP n).1 (0,false,0)=some (.inl (if bestE m p (outP n).1 < 0 then 0 else bestE m p (outP n).1,!decide (bestE m p (outP n).1 < 0))):=by
 have hlen:=(qxm (n:=n)).len
 have e:bestE m p (outP n).1=bestE m p ((outP n).1.take (outP n).1.length):=by rw [List.take_length]
 rw [e]
 refine q1c (fun i:Nat=>(if bestE m p ((outP n).1.take i) < 0 then 0 else bestE m p ((outP n).1.take i),!decide (bestE m p ((outP n).1.take i) < 0),(i:Int))) (outP n).1.length (q11 (by omega)) _ (fun i hi=>?_) ?_ _ rfl
 · have hy:=qr [] hi
   obtain ⟨r1,r2,r3,r4,r5⟩:=qrt hf m hm he hy
   have hq:=quo_nn hf m hm p he hy
   have hd:=q167 _ m r1 (by omega) r4 r5
   have hb : -1≤bestE m p ((outP n).1.take i)∧bestE m p ((outP n).1.take i)≤104857600000:=qyr hf m hm p he _ (fun y hy=>List.mem_of_mem_take hy) _ (by omega)
   have e2:bestE m p ((outP n).1.take (i+1))=bstep m p (bestE m p ((outP n).1.take i)) ((outP n).1.getD i []):=qa7 _ _ _ _ _ hi
   rw [e2]
   unfold bstep
   by_cases h0:((outP n).1.getD i []).getD p 0=0
   · rw [if_pos h0]
     simp (disch:=omega) only [q5m,ckB_ix,q7,q6,qd,ckB_mk,ckB_ne,bif_lt,q9,bif_le,qb,bif_eq,q8,bif_ne,qa,qc,q5,q4,bnd_ok,lk_inl,lk_inr,Int.toNat_natCast,decide_true]
     rw [qf]
   · rw [if_neg h0]
     by_cases h1:bestE m p ((outP n).1.take i) < 0
     · have d1:decide (bestE m p ((outP n).1.take i) < 0)=true:=decide_eq_true h1
       have d2:decide (Int.tdiv (dotE ((outP n).1.getD i []) m) (((outP n).1.getD i []).getD p 0) < 0)=false:=decide_eq_false (by omega)
       rw [if_pos h1,if_pos h1,if_neg (by omega),d1,d2]
       simp (disch:=omega) only [q5m,hd,ckB_ne,Bool.not_true,Bool.not_false,ckB_ix,q7,q6,qd,ckB_mk,ckB_ne,bif_lt,q9,bif_le,qb,bif_eq,q8,bif_ne,qa,qc,q5,q4,bnd_ok,lk_inl,lk_inr,Int.toNat_natCast,decide_true]
       rw [qf]
     · have d1:decide (bestE m p ((outP n).1.take i) < 0)=false:=decide_eq_false h1
       rw [if_neg h1,if_neg h1,d1]
       by_cases h2:Int.tdiv (dotE ((outP n).1.getD i []) m) (((outP n).1.getD i []).getD p 0) < bestE m p ((outP n).1.take i)
       · have d2:decide (Int.tdiv (dotE ((outP n).1.getD i []) m) (((outP n).1.getD i []).getD p 0) < 0)=false:=decide_eq_false (by omega)
         rw [if_pos h2,if_neg (by omega),d2]
         simp (disch:=omega) only [q5m,hd,ckB_ne,Bool.not_true,Bool.not_false,ckB_ix,q7,q6,qd,ckB_mk,ckB_ne,bif_lt,q9,bif_le,qb,bif_eq,q8,bif_ne,qa,qc,q5,q4,bnd_ok,lk_inl,lk_inr,Int.toNat_natCast,decide_true]
         rw [qf]
       · rw [if_neg h2,if_neg h1,d1]
         simp (disch:=omega) only [q5m,hd,ckB_ne,Bool.not_true,Bool.not_false,ckB_ix,q7,q6,qd,ckB_mk,ckB_ne,bif_lt,q9,bif_le,qb,bif_eq,q8,bif_ne,qa,qc,q5,q4,bnd_ok,lk_inl,lk_inr,Int.toNat_natCast,decide_true]
         rw [qf]
 · simp (disch:=omega) only [q5m,ckB_ix,q7,q6,qd,ckB_mk,ckB_ne,bif_lt,q9,bif_le,qb,bif_eq,q8,bif_ne,qa,qc,q5,q4,bnd_ok,lk_inl,lk_inr,Int.toNat_natCast,decide_true]
end
theorem q17n {n:Net} (h:Small n) (hf:FewN n) (m:List Int) (hml:m.length≤1000000) (place:Int):qhj n m place=some (boO n m place):=by
 unfold qhj boO
 rw [q155 h m hml]
 cases hv:validN n&&markB n.1 m with
 | false => rfl
 | true =>
   rw [Bool.and_eq_true] at hv
   by_cases h1:place < 0
   · simp (disch:=omega) only [Bool.not_true,ckB_ix,q7,q6,qd,ckB_mk,ckB_ne,bif_lt,q9,bif_le,qb,bif_eq,q8,bif_ne,qa,qc,q5,q4,bnd_ok,lk_inl,lk_inr,Int.toNat_natCast,decide_true]
   · by_cases h2:n.1≤place
     · simp (disch:=omega) only [Bool.not_true,ckB_ix,q7,q6,qd,ckB_mk,ckB_ne,bif_lt,q9,bif_le,qb,bif_eq,q8,bif_ne,qa,qc,q5,q4,bnd_ok,lk_inl,lk_inr,Int.toNat_natCast,decide_true]
     · cases he:decide ((outP n).2=0) with
       | false =>
         simp (disch:=omega) only [Bool.not_true,qz0 h hf,he,Bool.not_false,ckB_ix,q7,q6,qd,ckB_mk,ckB_ne,bif_lt,q9,bif_le,qb,bif_eq,q8,bif_ne,qa,qc,q5,q4,bnd_ok,lk_inl,lk_inr,Int.toNat_natCast,decide_true]
       | true =>
         have e:place=(place.toNat:Int):=by omega
         have hb:=bo_eq h hf m hv.2 place.toNat (by omega) (of_decide_eq_true he)
         rw [← e] at hb
         simp (disch:=omega) only [Bool.not_true,qz0 h hf,he,hb,ckB_ix,q7,q6,qd,ckB_mk,ckB_ne,bif_lt,q9,bif_le,qb,bif_eq,q8,bif_ne,qa,qc,q5,q4,bnd_ok,lk_inl,lk_inr,Int.toNat_natCast,decide_true]
         cases decide (bestE m place.toNat (outP n).1 < 0)<;>rfl
theorem q12g {n:Net} (h:Small n) (hf:FewN n) (m:List Int) (hml:m.length≤1000000) (place:Int):qhh n m place=some (boO n m place):=by
 unfold qhh boO
 rw [qv3 h,q10c n m hml]
 cases hv:validN n with
 | false => rfl
 | true =>
   cases hk:markB n.1 m with
   | false => rfl
   | true =>
     by_cases h1:place < 0
     · simp (disch:=omega) only [Bool.not_true,Bool.and_self,ckB_ix,q7,q6,qd,ckB_mk,ckB_ne,bif_lt,q9,bif_le,qb,bif_eq,q8,bif_ne,qa,qc,q5,q4,bnd_ok,lk_inl,lk_inr,Int.toNat_natCast,decide_true]
     · by_cases h2:n.1≤place
       · simp (disch:=omega) only [Bool.not_true,Bool.and_self,ckB_ix,q7,q6,qd,ckB_mk,ckB_ne,bif_lt,q9,bif_le,qb,bif_eq,q8,bif_ne,qa,qc,q5,q4,bnd_ok,lk_inl,lk_inr,Int.toNat_natCast,decide_true]
       · cases he:decide ((outP n).2=0) with
         | false =>
           simp (disch:=omega) only [Bool.not_true,Bool.and_self,qsq h hf,he,Bool.not_false,ckB_ix,q7,q6,qd,ckB_mk,ckB_ne,bif_lt,q9,bif_le,qb,bif_eq,q8,bif_ne,qa,qc,q5,q4,bnd_ok,lk_inl,lk_inr,Int.toNat_natCast,decide_true]
         | true =>
           have e:place=(place.toNat:Int):=by omega
           have hb:=rbo_eq h hf m hk place.toNat (by omega) (of_decide_eq_true he)
           rw [← e] at hb
           simp (disch:=omega) only [Bool.not_true,Bool.and_self,qsq h hf,he,hb,ckB_ix,q7,q6,qd,ckB_mk,ckB_ne,bif_lt,q9,bif_le,qb,bif_eq,q8,bif_ne,qa,qc,q5,q4,bnd_ok,lk_inl,lk_inr,Int.toNat_natCast,decide_true]
           by_cases hlt:bestE m place.toNat (outP n).1 < 0
           · rw [decide_eq_true hlt]; rfl
           · rw [decide_eq_false hlt,if_neg hlt]; rfl
theorem qwl (n:Net) (m:List Int) (place:Int) (hl:n.2.1.length≤9223372036854775807):qe9 n m place=some true:=by
 obtain ⟨b,hb,hF⟩:=few_eq n hl
 unfold qe9
 rw [q14s,hb]
 cases b with
 | false => rfl
 | true =>
   obtain ⟨h,hf⟩:=hF rfl
   have hf:FewN n:=hf
   by_cases h60:(60:Int) < (m.length:Int)
   · simp (disch:=omega) only [Bool.not_true,ckB_ix,q7,q6,qd,ckB_mk,ckB_ne,bif_lt,q9,bif_le,qb,bif_eq,q8,bif_ne,qa,qc,q5,q4,bnd_ok,lk_inl,lk_inr,Int.toNat_natCast,decide_true]
   · simp (disch:=omega) only [Bool.not_true,q17n h hf m (by omega) place,q12g h hf m (by omega) place,ckB_ix,q7,q6,qd,ckB_mk,ckB_ne,bif_lt,q9,bif_le,qb,bif_eq,q8,bif_ne,qa,qc,q5,q4,bnd_ok,lk_inl,lk_inr,Int.toNat_natCast,decide_true]
end Go.Proofs.Ythakmiiaejhlbaa
