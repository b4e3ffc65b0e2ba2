/-
  Flow: sums of products, bounds; the law FlowBounds.
-/
import Derived.Test.YthakmiiaejhlbaaZ6F9
set_option linter.all false
namespace Go.Proofs.Ythakmiiaejhlbaa
open Go.K Go.M
def dotE (a b:List Int):Int:=sumN (fun i=>a.getD i 0*b.getD i 0) a.length
theorem qsd {f:Nat→Int} {b:Int} (hb:0≤b) {n i:Nat} (hi:i≤n) (h:∀ k,k < n → -b≤f k∧f k≤b) : -((n:Int)*b)≤sumN f i∧sumN f i≤(n:Int)*b:=by
 have h1:=q12u i fun k hk=>h k (by omega)
 have h2:(i:Int)*b≤(n:Int)*b:=Int.mul_le_mul_of_nonneg_right (by omega) hb
 omega
section
variable (a b:List Int) (hab:a.length≤b.length) (ha:a.length≤1000) (ba:∀ i,0≤a.getD i 0∧a.getD i 0≤1048576) (bb:∀ i,i < a.length→0≤b.getD i 0∧b.getD i 0≤100)
include ba bb in
theorem qq6 (i:Nat) (hi:i < a.length):0≤a.getD i 0*b.getD i 0∧a.getD i 0*b.getD i 0≤104857600:=by
 have h1:=ba i
 have h2:=bb i hi
 have h3:=qxz (a:=1048576) (b:=100) (x:=a.getD i 0) (y:=b.getD i 0) (by omega) (by omega)
 exact ⟨Int.mul_nonneg h1.1 h2.1,by omega⟩
include ba bb ha in
theorem qpu (i:Nat) (hi:i≤a.length):0≤sumN (fun k=>a.getD k 0*b.getD k 0) i∧sumN (fun k=>a.getD k 0*b.getD k 0) i≤104857600000:=by
 have h1:=qsd (f:=fun k=>a.getD k 0*b.getD k 0) (b:=104857600) (by omega) hi fun k hk=>by
   have:=qq6 a b ba bb k hk
   show -104857600≤a.getD k 0*b.getD k 0∧a.getD k 0*b.getD k 0≤104857600
   omega
 have h2:(a.length:Int)*104857600≤1000*104857600:=Int.mul_le_mul_of_nonneg_right (by omega) (by omega)
 refine ⟨q108 fun k hk=>(qq6 a b ba bb k (by omega)).1,by omega⟩
include hab ha ba bb in
theorem dot_eq:qlf a b=some (dotE a b):=by
 have hL:qvo a b (a.length:Int) (0,0)=some (.inl (dotE a b)):=by
   refine q99 (fun i:Nat=>(sumN (fun k=>a.getD k 0*b.getD k 0) i,(i:Int))) a.length (q2i (by omega)) _ (fun i hi=>?_) ?_ _ rfl
   · have h1:=qpu a b ha ba bb i (by omega)
     have h2:=qpu a b ha ba bb (i+1) (by omega)
     have h3:=qq6 a b ba bb i hi
     have e:sumN (fun k=>a.getD k 0*b.getD k 0) (i+1)=sumN (fun k=>a.getD k 0*b.getD k 0) i+a.getD i 0*b.getD i 0:=rfl
     rw [e] at h2 ⊢
     simp (disch:=omega) only [qhk,ckB_ix,qc,q7,qb,ckB_mk,ckB_ne,bif_lt,qe,bif_le,qa,bif_eq,qf,bif_ne,q9,qd,q5,q0,bnd_ok,lk_inl,lk_inr,Int.toNat_natCast,decide_true]
     rw [qn]
   · simp (disch:=omega) only [qhk,ckB_ix,qc,q7,qb,ckB_mk,ckB_ne,bif_lt,qe,bif_le,qa,bif_eq,qf,bif_ne,q9,qd,q5,q0,bnd_ok,lk_inl,lk_inr,Int.toNat_natCast,decide_true]
     rfl
 unfold qlf
 rw [hL]; rfl
include hab ha ba bb in
theorem q13y:qm2 a b=some (dotE a b):=by
 have hL:qtb a b (0,0)=some (.inl (dotE a b)):=by
   refine q99 (fun i:Nat=>(sumN (fun k=>a.getD k 0*b.getD k 0) i,(i:Int))) a.length (q2i (by omega)) _ (fun i hi=>?_) ?_ _ rfl
   · have h1:=qpu a b ha ba bb i (by omega)
     have h2:=qpu a b ha ba bb (i+1) (by omega)
     have h3:=qq6 a b ba bb i hi
     have e:sumN (fun k=>a.getD k 0*b.getD k 0) (i+1)=sumN (fun k=>a.getD k 0*b.getD k 0) i+a.getD i 0*b.getD i 0:=rfl
     rw [e] at h2 ⊢
     simp (disch:=omega) only [qfp,ckB_ix,qc,q7,qb,ckB_mk,ckB_ne,bif_lt,qe,bif_le,qa,bif_eq,qf,bif_ne,q9,qd,q5,q0,bnd_ok,lk_inl,lk_inr,Int.toNat_natCast,decide_true]
     rw [qn]
   · simp (disch:=omega) only [qfp,ckB_ix,qc,q7,qb,ckB_mk,ckB_ne,bif_lt,qe,bif_le,qa,bif_eq,qf,bif_ne,q9,qd,q5,q0,bnd_ok,lk_inl,lk_inr,Int.toNat_natCast,decide_true]
     rfl
 unfold qm2
 rw [hL]; rfl
end
theorem qw4 {n:Net} (h:Small n) (m:List Int) (hm:m.length≤1000000):q9e n m=some (validN n&&markB n.1 m):=by
 unfold q9e
 rw [q12y h m hm]
 cases validN n&&markB n.1 m<;>rfl
end Go.Proofs.Ythakmiiaejhlbaa
