/-
  Flow: the reference's elimination is elimE too.
-/
import Derived.Test.YthakmiiaejhlbaaZ5F6
set_option linter.all false
namespace Go.Proofs.Ythakmiiaejhlbaa
open Go.K Go.M
theorem q102 {n:Nat} (a b:List Int) (ha:a.length=n) (hb:b.length=n) (hn:n≤1000):qh4 a b=some (qu n a b):=by
 subst ha
 have hL:qp2 a b 0=some (bif qu a.length a b then .inl () else .inr false):=by
   unfold qu
   refine qkx (fun i:Nat=>(i:Int)) a.length (q1o (by omega)) (fun i=>decide (a.getD i 0=0)||!decide (b.getD i 0=0)) () false (fun i hi hp=>?_) (fun i hi hp=>?_) ?_
   · rw [Bool.or_eq_true,decide_eq_true_eq,Bool.not_eq_true',decide_eq_false_iff_not] at hp
     by_cases h1:a.getD i 0=0
     · simp (disch:=omega) only [q7l,ckB_ix,q6,q5,q7,ckB_mk,ckB_ne,bif_lt,qb,bif_le,qc,bif_eq,qa,bif_ne,q8,q9,q4,q0,bnd_ok,lk_inl,lk_inr,Int.toNat_natCast,decide_true]
       rw [qg]
     · have h2:=hp.resolve_left h1
       simp (disch:=omega) only [q7l,ckB_ix,q6,q5,q7,ckB_mk,ckB_ne,bif_lt,qb,bif_le,qc,bif_eq,qa,bif_ne,q8,q9,q4,q0,bnd_ok,lk_inl,lk_inr,Int.toNat_natCast,decide_true]
       rw [qg]
   · rw [Bool.or_eq_false_iff,decide_eq_false_iff_not,Bool.not_eq_false',decide_eq_true_eq] at hp
     obtain ⟨h1,h2⟩:=hp
     simp (disch:=omega) only [q7l,ckB_ix,q6,q5,q7,ckB_mk,ckB_ne,bif_lt,qb,bif_le,qc,bif_eq,qa,bif_ne,q8,q9,q4,q0,bnd_ok,lk_inl,lk_inr,Int.toNat_natCast,decide_true]
   · simp (disch:=omega) only [q7l,ckB_ix,q6,q5,q7,ckB_mk,ckB_ne,bif_lt,qb,bif_le,qc,bif_eq,qa,bif_ne,q8,q9,q4,q0,bnd_ok,lk_inl,lk_inr,Int.toNat_natCast,decide_true]
 unfold qh4
 rw [hL]
 cases qu a.length a b<;>rfl
end Go.Proofs.Ythakmiiaejhlbaa
