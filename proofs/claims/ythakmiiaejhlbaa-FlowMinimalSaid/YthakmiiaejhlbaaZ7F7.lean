/-
  Flow: the reference's elimination is elimE too.
-/
import Derived.Test.YthakmiiaejhlbaaZ7F6
set_option linter.all false
namespace Go.Proofs.Ythakmiiaejhlbaa
open Go.K Go.M
theorem q106 {n:Nat} (a b:List Int) (ha:a.length=n) (hb:b.length=n) (hn:n≤1000):qh0 a b=some (qv n a b):=by
 subst ha
 have hL:qpl a b 0=some (bif qv a.length a b then .inl () else .inr false):=by
   unfold qv
   refine qmb (fun i:Nat=>(i:Int)) a.length (q14 (by omega)) (fun i=>decide (a.getD i 0=0)||!decide (b.getD i 0=0)) () false (fun i hi hp=>?_) (fun i hi hp=>?_) ?_
   · rw [Bool.or_eq_true,decide_eq_true_eq,Bool.not_eq_true',decide_eq_false_iff_not] at hp
     by_cases h1:a.getD i 0=0
     · simp (disch:=omega) only [q72,ckB_ix,q6,q5,qb,ckB_mk,ckB_ne,bif_lt,q9,bif_le,qa,bif_eq,qc,bif_ne,q7,q8,q4,q0,bnd_ok,lk_inl,lk_inr,Int.toNat_natCast,decide_true]
       rw [qg]
     · have h2:=hp.resolve_left h1
       simp (disch:=omega) only [q72,ckB_ix,q6,q5,qb,ckB_mk,ckB_ne,bif_lt,q9,bif_le,qa,bif_eq,qc,bif_ne,q7,q8,q4,q0,bnd_ok,lk_inl,lk_inr,Int.toNat_natCast,decide_true]
       rw [qg]
   · rw [Bool.or_eq_false_iff,decide_eq_false_iff_not,Bool.not_eq_false',decide_eq_true_eq] at hp
     obtain ⟨h1,h2⟩:=hp
     simp (disch:=omega) only [q72,ckB_ix,q6,q5,qb,ckB_mk,ckB_ne,bif_lt,q9,bif_le,qa,bif_eq,qc,bif_ne,q7,q8,q4,q0,bnd_ok,lk_inl,lk_inr,Int.toNat_natCast,decide_true]
   · simp (disch:=omega) only [q72,ckB_ix,q6,q5,qb,ckB_mk,ckB_ne,bif_lt,q9,bif_le,qa,bif_eq,qc,bif_ne,q7,q8,q4,q0,bnd_ok,lk_inl,lk_inr,Int.toNat_natCast,decide_true]
 unfold qh0
 rw [hL]
 cases qv a.length a b<;>rfl
theorem q14x (a b:Nat) (hb:b≤9223372036854775807):qmw (a:Int) (b:Int)=some (Nat.gcd a b:Int):=by
 have h:qu4 ((a:Int),(b:Int))=some (.inl (Nat.gcd a b:Int)) :=
   qyl (step:=fun s:Int×Int=>qco (R:=LR (Int×Int) Int Int) s.1 s.2 (fun a'=>some (.next a')) (fun e=>some (.done e)) (fun r=>some (.ret r))) id (fun a b=>by
     by_cases h:b=0
     · subst h
       simp (disch:=omega) only [qco,ckB_ix,q6,q5,qb,ckB_mk,ckB_ne,bif_lt,q9,bif_le,qa,bif_eq,qc,bif_ne,q7,q8,q4,q0,bnd_ok,lk_inl,lk_inr,Int.toNat_natCast,decide_true]
       rfl
     · have h':(b:Int)≠0:=by omega
       simp (disch:=omega) only [qco,ckB_ne,ckB_ix,q6,q5,qb,ckB_mk,ckB_ne,bif_lt,q9,bif_le,qa,bif_eq,qc,bif_ne,q7,q8,q4,q0,bnd_ok,lk_inl,lk_inr,Int.toNat_natCast,decide_true]
       rw [if_neg h]) (b+1) a b many (by omega) (by unfold many; omega)
 unfold qmw
 rw [h]; rfl
theorem q18h (x:Int) (h : -4611686018427387904≤x∧x≤4611686018427387904):qki x=some (x.natAbs:Int):=by
 unfold qki
 by_cases h0:x < 0
 · simp (disch:=omega) only [ckB_ix,q6,q5,qb,ckB_mk,ckB_ne,bif_lt,q9,bif_le,qa,bif_eq,qc,bif_ne,q7,q8,q4,q0,bnd_ok,lk_inl,lk_inr,Int.toNat_natCast,decide_true]
   exact congrArg some (by omega)
 · simp (disch:=omega) only [ckB_ix,q6,q5,qb,ckB_mk,ckB_ne,bif_lt,q9,bif_le,qa,bif_eq,qc,bif_ne,q7,q8,q4,q0,bnd_ok,lk_inl,lk_inr,Int.toNat_natCast,decide_true]
   exact congrArg some (by omega)
theorem q101 (l:List Int) (hl:l.length≤1000000) (hb:BD l):q9e l=some (divE (gcdE l) l):=by
 have e0:qk0 l (0,0)=some (.inl (gcdE l:Int)):=by
   unfold gcdE
   refine q1l (fun i:Nat=>((gN (fn l) i:Int),(i:Int))) l.length (q14 (by omega)) _ (fun i hi=>?_) ?_ _ rfl
   · have h1:=q18h _ (hb i)
     have hbi:=hb i
     have h2:=q14x (gN (fn l) i) (l.getD i 0).natAbs (by omega)
     simp (disch:=omega) only [q9g,h1,h2,ckB_ix,q6,q5,qb,ckB_mk,ckB_ne,bif_lt,q9,bif_le,qa,bif_eq,qc,bif_ne,q7,q8,q4,q0,bnd_ok,lk_inl,lk_inr,Int.toNat_natCast,decide_true]
     rw [qg]
     rfl
   · simp (disch:=omega) only [q9g,ckB_ix,q6,q5,qb,ckB_mk,ckB_ne,bif_lt,q9,bif_le,qa,bif_eq,qc,bif_ne,q7,q8,q4,q0,bnd_ok,lk_inl,lk_inr,Int.toNat_natCast,decide_true]
 unfold q9e
 by_cases hg:(1:Int) < (gcdE l:Int)
 · have e1:qk4 l (gcdE l:Int) (0,[]++l)=some (.inl (divE (gcdE l) l)):=by
     have e:divE (gcdE l:Int) l=tab l.length fun j=>if j < l.length then Int.tdiv (l.getD j 0) (gcdE l:Int) else l.getD j 0:=by
       unfold divE
       rw [decide_eq_true hg,cond_true,qx5]
       exact q5f fun j hj=>(if_pos hj).symm
     rw [e,List.nil_append]
     refine q1l (fun i:Nat=>((i:Int),tab l.length fun j=>if j < i then Int.tdiv (l.getD j 0) (gcdE l:Int) else l.getD j 0)) l.length (q14 (by omega)) _ (fun i hi=>?_) ?_ _ (by
       have:(tab l.length fun j=>if j < 0 then Int.tdiv (l.getD j 0) (gcdE l:Int) else l.getD j 0)=l:=by
         conv=>rhs; rw [tab_of l 0]
         exact q5f fun j hj=>if_neg (by omega)
       simp only [this]; rfl)
     · have hd:=qy6 (g:=(gcdE l:Int)) (hb i)
       have hg0:(gcdE l:Int)≠0:=by omega
       simp (disch:=omega) only [q98,q4p,ckB_ne,ckB_ix,q6,q5,qb,ckB_mk,ckB_ne,bif_lt,q9,bif_le,qa,bif_eq,qc,bif_ne,q7,q8,q4,q0,bnd_ok,lk_inl,lk_inr,Int.toNat_natCast,decide_true]
       rw [qg,qy4 hi]
     · simp (disch:=omega) only [q98,ckB_ix,q6,q5,qb,ckB_mk,ckB_ne,bif_lt,q9,bif_le,qa,bif_eq,qc,bif_ne,q7,q8,q4,q0,bnd_ok,lk_inl,lk_inr,Int.toNat_natCast,decide_true]
   simp (disch:=omega) only [e0,e1,ckB_ix,q6,q5,qb,ckB_mk,ckB_ne,bif_lt,q9,bif_le,qa,bif_eq,qc,bif_ne,q7,q8,q4,q0,bnd_ok,lk_inl,lk_inr,Int.toNat_natCast,decide_true]
 · have e:divE (gcdE l:Int) l=l:=by
     unfold divE
     rw [decide_eq_false hg]; rfl
   rw [e]
   simp (disch:=omega) only [e0,List.nil_append,ckB_ix,q6,q5,qb,ckB_mk,ckB_ne,bif_lt,q9,bif_le,qa,bif_eq,qc,bif_ne,q7,q8,q4,q0,bnd_ok,lk_inl,lk_inr,Int.toNat_natCast,decide_true]
end Go.Proofs.Ythakmiiaejhlbaa
