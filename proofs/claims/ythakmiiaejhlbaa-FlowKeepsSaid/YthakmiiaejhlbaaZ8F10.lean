/-
  Flow: sums of products, bounds; the law FlowBounds.
-/
import Derived.Test.YthakmiiaejhlbaaZ8F9
set_option linter.all false
namespace Go.Proofs.Ythakmiiaejhlbaa
open Go.K Go.M
def dotE (a b:List Int):Int:=sumN (fun i=>a.getD i 0*b.getD i 0) a.length
theorem qxs {f:Nat→Int} {b:Int} (hb:0≤b) {n i:Nat} (hi:i≤n) (h:∀ k,k < n → -b≤f k∧f k≤b) : -((n:Int)*b)≤sumN f i∧sumN f i≤(n:Int)*b:=by
 have h1:=qp4 i fun k hk=>h k (by omega)
 have h2:(i:Int)*b≤(n:Int)*b:=Int.mul_le_mul_of_nonneg_right (by omega) hb
 omega
section
variable (a b:List Int) (hab:a.length≤b.length) (ha:a.length≤1000) (ba:∀ i,0≤a.getD i 0∧a.getD i 0≤1048576) (bb:∀ i,i < a.length→0≤b.getD i 0∧b.getD i 0≤100)
include ba bb in
theorem qts (i:Nat) (hi:i < a.length):0≤a.getD i 0*b.getD i 0∧a.getD i 0*b.getD i 0≤104857600:=by
 have h1:=ba i
 have h2:=bb i hi
 have h3:=q9l (a:=1048576) (b:=100) (x:=a.getD i 0) (y:=b.getD i 0) (by omega) (by omega)
 exact ⟨Int.mul_nonneg h1.1 h2.1,by omega⟩
include ba bb ha in
theorem qu6 (i:Nat) (hi:i≤a.length):0≤sumN (fun k=>a.getD k 0*b.getD k 0) i∧sumN (fun k=>a.getD k 0*b.getD k 0) i≤104857600000:=by
 have h1:=qxs (f:=fun k=>a.getD k 0*b.getD k 0) (b:=104857600) (by omega) hi fun k hk=>by
   have:=qts a b ba bb k hk
   show -104857600≤a.getD k 0*b.getD k 0∧a.getD k 0*b.getD k 0≤104857600
   omega
 have h2:(a.length:Int)*104857600≤1000*104857600:=Int.mul_le_mul_of_nonneg_right (by omega) (by omega)
 refine ⟨qum fun k hk=>(qts a b ba bb k (by omega)).1,by omega⟩
include hab ha ba bb in
theorem dot_eq:qi3 a b=some (dotE a b):=by
 have hL:qv9 a b (a.length:Int) (0,0)=some (.inl (dotE a b)):=by
   refine q1r (fun i:Nat=>(sumN (fun k=>a.getD k 0*b.getD k 0) i,(i:Int))) a.length (q13 (by omega)) _ (fun i hi=>?_) ?_ _ rfl
   · have h1:=qu6 a b ha ba bb i (by omega)
     have h2:=qu6 a b ha ba bb (i+1) (by omega)
     have h3:=qts a b ba bb i hi
     have e:sumN (fun k=>a.getD k 0*b.getD k 0) (i+1)=sumN (fun k=>a.getD k 0*b.getD k 0) i+a.getD i 0*b.getD i 0:=rfl
     rw [e] at h2 ⊢
     simp (disch:=omega) only [qi9,ckB_ix,q6,q5,qc,ckB_mk,ckB_ne,bif_lt,q8,bif_le,qa,bif_eq,q9,bif_ne,q7,qb,q4,q0,bnd_ok,lk_inl,lk_inr,Int.toNat_natCast,decide_true]
     rw [qg]
   · simp (disch:=omega) only [qi9,ckB_ix,q6,q5,qc,ckB_mk,ckB_ne,bif_lt,q8,bif_le,qa,bif_eq,q9,bif_ne,q7,qb,q4,q0,bnd_ok,lk_inl,lk_inr,Int.toNat_natCast,decide_true]
     rfl
 unfold qi3
 rw [hL]; rfl
include hab ha ba bb in
end
theorem qox {n:Net} (h:Small n) (m:List Int) (hm:m.length≤1000000):q8k n m=some (validN n&&markB n.1 m):=by
 unfold q8k
 rw [qpl h m hm]
 cases validN n&&markB n.1 m<;>rfl
def bstep (m:List Int) (p:Nat) (best:Int) (y:List Int):Int:=if y.getD p 0=0 then best else if best < 0 then Int.tdiv (dotE y m) (y.getD p 0) else if Int.tdiv (dotE y m) (y.getD p 0) < best then Int.tdiv (dotE y m) (y.getD p 0) else best
def bestE (m:List Int) (p:Nat) (d:Rw):Int:=d.foldl (bstep m p) (-1)
def boO (n:Net) (m:List Int) (place:Int):Int×Int :=
 bif !(validN n&&markB n.1 m) then (0,1) else bif decide (place < 0) then (0,2) else bif decide (n.1≤place) then (0,2) else bif !decide ((outP n).2=0) then (0,(outP n).2) else
   bif decide (bestE m place.toNat (outP n).1 < 0) then (0,30) else (bestE m place.toNat (outP n).1,0)
section
variable {n:Net} (h:Small n) (hf:FewN n) (m:List Int) (hm:markB n.1 m=true) (p:Nat) (hp:(p:Int) < n.1) (he:(outP n).2=0)
include hm he hf in
theorem qx5 {y:List Int} (hy:y∈(outP n).1):y.length≤m.length∧y.length=n.1.toNat∧y.length≤12∧(∀ i,0≤y.getD i 0∧y.getD i 0≤1048576)∧(∀ i,i < y.length→0≤m.getD i 0∧m.getD i 0≤100):=by
 have ho:=(qdd (n:=n)).row y hy
 obtain ⟨h1,h2⟩:=q4v.1 hm
 obtain ⟨_,_,f1,f2,_⟩:=qb8 hf he
 refine ⟨by omega,ho.1,by omega,ho.2,fun i hi=>h2 i (by omega)⟩
include hm he hf in
theorem quo_nn {y:List Int} (hy:y∈(outP n).1):0≤Int.tdiv (dotE y m) (y.getD p 0)∧Int.tdiv (dotE y m) (y.getD p 0)≤104857600000:=by
 obtain ⟨r1,r2,r3,r4,r5⟩:=qx5 hf m hm he hy
 have h1:=qu6 y m (by omega) r4 r5 y.length (Nat.le_refl _)
 have h1:0≤dotE y m∧dotE y m≤104857600000:=h1
 have h2:=qwm (x:=dotE y m) (g:=y.getD p 0) (b:=104857600000) (by omega)
 exact ⟨Int.tdiv_nonneg h1.1 (r4 p).1,h2.2⟩
include hm he hf in
theorem q10m:∀ (l:Rw),(∀ y∈l,y∈(outP n).1)→∀ b:Int,(-1≤b∧b≤104857600000) → -1≤l.foldl (bstep m p) b∧l.foldl (bstep m p) b≤104857600000
 | [], _, b, hb => hb
 | y :: l, hl, b, hb => by
   rw [List.foldl_cons]
   refine q10m l (fun z hz=>hl z (List.mem_cons_of_mem _ hz)) _ ?_
   have hq:=quo_nn hf m hm p he (hl y List.mem_cons_self)
   unfold bstep
   repeat' split
   all_goals omega
include h hm hp he hf in
theorem bo_eq:qql m (p:Int) (outP n).1 ((outP n).1.length:Int) (-1,0)=some (.inl (bestE m p (outP n).1)):=by
 have hlen:=(qdd (n:=n)).len
 have e:bestE m p (outP n).1=bestE m p ((outP n).1.take (outP n).1.length):=by rw [List.take_length]
 rw [e]
 refine q1r (fun i:Nat=>(bestE m p ((outP n).1.take i),(i:Int))) (outP n).1.length (q13 (by omega)) _ (fun i hi=>?_) ?_ _ rfl
 · have hy:=qq [] hi
   obtain ⟨r1,r2,r3,r4,r5⟩:=qx5 hf m hm he hy
   have hq:=quo_nn hf m hm p he hy
   have hd:=dot_eq _ m r1 (by omega) r4 r5
   have hb : -1≤bestE m p ((outP n).1.take i)∧bestE m p ((outP n).1.take i)≤104857600000:=q10m hf m hm p he _ (fun y hy=>List.mem_of_mem_take hy) _ (by omega)
   have e2:bestE m p ((outP n).1.take (i+1))=bstep m p (bestE m p ((outP n).1.take i)) ((outP n).1.getD i []):=qmr _ _ _ _ _ hi
   rw [e2]
   unfold bstep
   by_cases h0:((outP n).1.getD i []).getD p 0=0
   · rw [if_pos h0]
     simp (disch:=omega) only [q67,ckB_ix,q6,q5,qc,ckB_mk,ckB_ne,bif_lt,q8,bif_le,qa,bif_eq,q9,bif_ne,q7,qb,q4,q0,bnd_ok,lk_inl,lk_inr,Int.toNat_natCast,decide_true]
     rw [qg]
   · rw [if_neg h0]
     by_cases h1:bestE m p ((outP n).1.take i) < 0
     · rw [if_pos h1]
       simp (disch:=omega) only [q67,hd,ckB_ne,ckB_ix,q6,q5,qc,ckB_mk,ckB_ne,bif_lt,q8,bif_le,qa,bif_eq,q9,bif_ne,q7,qb,q4,q0,bnd_ok,lk_inl,lk_inr,Int.toNat_natCast,decide_true]
       rw [qg]
     · rw [if_neg h1]
       by_cases h2:Int.tdiv (dotE ((outP n).1.getD i []) m) (((outP n).1.getD i []).getD p 0) < bestE m p ((outP n).1.take i)
       · rw [if_pos h2]
         simp (disch:=omega) only [q67,hd,ckB_ne,ckB_ix,q6,q5,qc,ckB_mk,ckB_ne,bif_lt,q8,bif_le,qa,bif_eq,q9,bif_ne,q7,qb,q4,q0,bnd_ok,lk_inl,lk_inr,Int.toNat_natCast,decide_true]
         rw [qg]
       · rw [if_neg h2]
         simp (disch:=omega) only [q67,hd,ckB_ne,ckB_ix,q6,q5,qc,ckB_mk,ckB_ne,bif_lt,q8,bif_le,qa,bif_eq,q9,bif_ne,q7,qb,q4,q0,bnd_ok,lk_inl,lk_inr,Int.toNat_natCast,decide_true]
         rw [qg]
 · simp (disch:=omega) only [q67,ckB_ix,q6,q5,qc,ckB_mk,ckB_ne,bif_lt,q8,bif_le,qa,bif_eq,q9,bif_ne,q7,qb,q4,q0,bnd_ok,lk_inl,lk_inr,Int.toNat_natCast,decide_true]
include h hm hp he hf in
end
theorem q15m {n:Net} (h:Small n) (hf:FewN n) (m:List Int) (hml:m.length≤1000000) (place:Int):qdy n m place=some (boO n m place):=by
 unfold qdy boO
 rw [qox h m hml]
 cases hv:validN n&&markB n.1 m with
 | false => rfl
 | true =>
   rw [Bool.and_eq_true] at hv
   by_cases h1:place < 0
   · simp (disch:=omega) only [Bool.not_true,ckB_ix,q6,q5,qc,ckB_mk,ckB_ne,bif_lt,q8,bif_le,qa,bif_eq,q9,bif_ne,q7,qb,q4,q0,bnd_ok,lk_inl,lk_inr,Int.toNat_natCast,decide_true]
   · by_cases h2:n.1≤place
     · simp (disch:=omega) only [Bool.not_true,ckB_ix,q6,q5,qc,ckB_mk,ckB_ne,bif_lt,q8,bif_le,qa,bif_eq,q9,bif_ne,q7,qb,q4,q0,bnd_ok,lk_inl,lk_inr,Int.toNat_natCast,decide_true]
     · cases he:decide ((outP n).2=0) with
       | false =>
         simp (disch:=omega) only [Bool.not_true,qrd h hf,he,Bool.not_false,ckB_ix,q6,q5,qc,ckB_mk,ckB_ne,bif_lt,q8,bif_le,qa,bif_eq,q9,bif_ne,q7,qb,q4,q0,bnd_ok,lk_inl,lk_inr,Int.toNat_natCast,decide_true]
       | true =>
         have e:place=(place.toNat:Int):=by omega
         have hb:=bo_eq h hf m hv.2 place.toNat (by omega) (of_decide_eq_true he)
         rw [← e] at hb
         simp (disch:=omega) only [Bool.not_true,qrd h hf,he,hb,ckB_ix,q6,q5,qc,ckB_mk,ckB_ne,bif_lt,q8,bif_le,qa,bif_eq,q9,bif_ne,q7,qb,q4,q0,bnd_ok,lk_inl,lk_inr,Int.toNat_natCast,decide_true]
         cases decide (bestE m place.toNat (outP n).1 < 0)<;>rfl
end Go.Proofs.Ythakmiiaejhlbaa
