/-
  Sorting rows of numbers: the partitions, partial insertion.
-/
import Derived.Test.YthakmiiaejhlbaaZ8V2
set_option linter.all false
namespace Go.Proofs.Ythakmiiaejhlbaa
open Go.K Go.M
theorem qrz (p:List Int→Bool) (d:Array (List Int)) (j:Nat):∀ (n i:Nat),j+1 - i=n→i≤Sort.scanUp p d j i∧(Sort.scanUp p d j i≤i∨Sort.scanUp p d j i≤j+1):=by
 intro n
 induction n with
 | zero =>
   intro i h
   rw [Sort.scanUp,if_neg (by simp; omega)]
   omega
 | succ n ih =>
   intro i h
   rw [Sort.scanUp]
   split
   · have:=ih (i+1) (by omega)
     omega
   · omega
theorem qi7 (p:List Int→Bool) (d:Array (List Int)) (i:Nat):∀ j,Sort.scanDown p d i j≤j
 | 0 => Nat.le_refl 0
 | j + 1 => by
   rw [Sort.scanDown]
   split
   · have:=qi7 p d i j; omega
   · exact Nat.le_refl _
theorem qmv {Rr:Type} {step:Int→Option (LR Int Int Rr)} (p:List Int→Bool) (d:Rw) (j:Nat) (hs:∀ i:Nat,step (i:Int)=some (bif decide (i≤j)&&p (d.getD i []) then .next ((i+1:Nat):Int) else .done (i:Int))) (i:Nat) (hj:j≤1000000) :
   loopM step (i:Int)=some (.inl (Sort.scanUp p d.toArray j i:Int)):=by
 suffices H:∀ n i,j+1 - i=n→∀ m,n < m→iter step m (i:Int)=some (.inl (Sort.scanUp p d.toArray j i:Int)) from H _ i rfl many (by unfold many; omega)
 intro n
 induction n with
 | zero =>
   intro i h m hm
   obtain ⟨m,rfl⟩:∃ q,m=q+1:=⟨m - 1,by omega⟩
   rw [q41,hs,Sort.scanUp,if_neg (by simp; omega),decide_eq_false (by omega)]
   rfl
 | succ n ih =>
   intro i h m hm
   obtain ⟨m,rfl⟩:∃ q,m=q+1:=⟨m - 1,by omega⟩
   rw [q41,hs,Sort.scanUp,arr_at,decide_eq_true (show i≤j by omega)]
   cases hp:p (d.getD i []) with
   | true =>
     rw [if_pos (by simp)]
     exact ih (i+1) (by omega) m (by omega)
   | false =>
     rw [if_neg (by simp)]
     rfl
theorem qqk {Rr:Type} {step:Int→Option (LR Int Int Rr)} (p:List Int→Bool) (d:Rw) (i:Nat) (hi:1≤i) (hs:∀ j:Nat,j < d.length→step (j:Int)=some (bif decide (i≤j)&&p (d.getD j []) then .next ((j:Int) - 1) else .done (j:Int))):∀ (j:Nat),j < d.length→∀ m,j < m →
   iter step m (j:Int)=some (.inl (Sort.scanDown p d.toArray i j:Int))
 | 0, hj, m, hm => by
   obtain ⟨m,rfl⟩:∃ q,m=q+1:=⟨m - 1,by omega⟩
   rw [q41,hs 0 hj,decide_eq_false (show ¬ i≤0 by omega)]
   rfl
 | j + 1, hj, m, hm => by
   obtain ⟨m,rfl⟩:∃ q,m=q+1:=⟨m - 1,by omega⟩
   rw [q41,hs (j+1) hj,Sort.scanDown,arr_at]
   by_cases h:i≤j+1
   · rw [decide_eq_true h]
     cases hp:p (d.getD (j+1) []) with
     | true =>
       rw [if_pos (by simp)]
       have e:((j+1:Nat):Int) - 1=(j:Int):=by omega
       simp only [Bool.and_self,cond_true,e]
       exact qqk p d i hi hs j (by omega) m (by omega)
     | false =>
       rw [if_neg (by simp)]
       rfl
   · rw [decide_eq_false h,if_neg (by simp)]
     rfl
theorem qhw {Rr:Type} {step:Int→Option (LR Int Int Rr)} (p:List Int→Bool) (d:Rw) (i:Nat) (hi:1≤i) (hs:∀ j:Nat,j < d.length→step (j:Int)=some (bif decide (i≤j)&&p (d.getD j []) then .next ((j:Int) - 1) else .done (j:Int))) (j:Nat) (hj:j < d.length) (hl:d.length≤1000000) :
 loopM step (j:Int)=some (.inl (Sort.scanDown p d.toArray i j:Int)):=qqk p d i hi hs j hj many (by unfold many; omega)
section
variable (a:Nat) (d:Rw) (hd:Sh d) (ha:a < d.length) (hl:d.length≤1000000)
include hd ha hl
theorem pt_up0 (j i:Nat) (hj:j < d.length):q8e (a:Int) (j:Int) d (i:Int)=some (.inl (Sort.scanUp (fun x=>ltL x d.toArray[a]!) d.toArray j i:Int)):=by
 rw [arr_at]
 refine qmv (fun x=>ltL x (d.getD a [])) d j (fun i=>?_) i (by omega)
 obtain ⟨e1,e2⟩:=cmp_eq hd i a
 by_cases h:i≤j
 · rw [decide_eq_true h,Bool.true_and,← e2]
   simp only [q2l,Int.toNat_natCast,e1,bnd_ok]
   simp (disch:=omega) only [ckB_ix,q6,q5,qc,ckB_mk,ckB_ne,bif_lt,q8,bif_le,qa,bif_eq,q9,bif_ne,q7,qb,q4,q0,bnd_ok,lk_inl,lk_inr,Int.toNat_natCast,decide_true]
   rw [qg]
   cases decide (cV (d.getD i []) (d.getD a []) < 0)<;>rfl
 · rw [decide_eq_false h]
   simp (disch:=omega) only [q2l,ckB_ix,q6,q5,qc,ckB_mk,ckB_ne,bif_lt,q8,bif_le,qa,bif_eq,q9,bif_ne,q7,qb,q4,q0,bnd_ok,lk_inl,lk_inr,Int.toNat_natCast,decide_true]
   rfl
theorem pt_up2 (j i:Nat) (hj:j < d.length):q8c (a:Int) (j:Int) d (i:Int)=some (.inl (Sort.scanUp (fun x=>ltL x d.toArray[a]!) d.toArray j i:Int)):=by
 rw [arr_at]
 refine qmv (fun x=>ltL x (d.getD a [])) d j (fun i=>?_) i (by omega)
 obtain ⟨e1,e2⟩:=cmp_eq hd i a
 by_cases h:i≤j
 · rw [decide_eq_true h,Bool.true_and,← e2]
   simp only [q2k,Int.toNat_natCast,e1,bnd_ok]
   simp (disch:=omega) only [ckB_ix,q6,q5,qc,ckB_mk,ckB_ne,bif_lt,q8,bif_le,qa,bif_eq,q9,bif_ne,q7,qb,q4,q0,bnd_ok,lk_inl,lk_inr,Int.toNat_natCast,decide_true]
   rw [qg]
   cases decide (cV (d.getD i []) (d.getD a []) < 0)<;>rfl
 · rw [decide_eq_false h]
   simp (disch:=omega) only [q2k,ckB_ix,q6,q5,qc,ckB_mk,ckB_ne,bif_lt,q8,bif_le,qa,bif_eq,q9,bif_ne,q7,qb,q4,q0,bnd_ok,lk_inl,lk_inr,Int.toNat_natCast,decide_true]
   rfl
theorem pt_dn1 (i j:Nat) (hi:1≤i) (hj:j < d.length):q8q (a:Int) (i:Int) d (j:Int)=some (.inl (Sort.scanDown (fun x=>!ltL x d.toArray[a]!) d.toArray i j:Int)):=by
 rw [arr_at]
 refine qhw (fun x=>!ltL x (d.getD a [])) d i hi (fun j hj=>?_) j hj hl
 obtain ⟨e1,e2⟩:=cmp_eq hd j a
 by_cases h:i≤j
 · rw [decide_eq_true h,Bool.true_and,← e2]
   simp only [q2j,Int.toNat_natCast,e1,bnd_ok]
   simp (disch:=omega) only [ckB_ix,q6,q5,qc,ckB_mk,ckB_ne,bif_lt,q8,bif_le,qa,bif_eq,q9,bif_ne,q7,qb,q4,q0,bnd_ok,lk_inl,lk_inr,Int.toNat_natCast,decide_true]
   cases decide (cV (d.getD j []) (d.getD a []) < 0)<;>rfl
 · rw [decide_eq_false h]
   simp (disch:=omega) only [q2j,ckB_ix,q6,q5,qc,ckB_mk,ckB_ne,bif_lt,q8,bif_le,qa,bif_eq,q9,bif_ne,q7,qb,q4,q0,bnd_ok,lk_inl,lk_inr,Int.toNat_natCast,decide_true]
   rfl
theorem pt_dn3 (i j:Nat) (hi:1≤i) (hj:j < d.length):q8d (a:Int) (i:Int) d (j:Int)=some (.inl (Sort.scanDown (fun x=>!ltL x d.toArray[a]!) d.toArray i j:Int)):=by
 rw [arr_at]
 refine qhw (fun x=>!ltL x (d.getD a [])) d i hi (fun j hj=>?_) j hj hl
 obtain ⟨e1,e2⟩:=cmp_eq hd j a
 by_cases h:i≤j
 · rw [decide_eq_true h,Bool.true_and,← e2]
   simp only [q2h,Int.toNat_natCast,e1,bnd_ok]
   simp (disch:=omega) only [ckB_ix,q6,q5,qc,ckB_mk,ckB_ne,bif_lt,q8,bif_le,qa,bif_eq,q9,bif_ne,q7,qb,q4,q0,bnd_ok,lk_inl,lk_inr,Int.toNat_natCast,decide_true]
   cases decide (cV (d.getD j []) (d.getD a []) < 0)<;>rfl
 · rw [decide_eq_false h]
   simp (disch:=omega) only [q2h,ckB_ix,q6,q5,qc,ckB_mk,ckB_ne,bif_lt,q8,bif_le,qa,bif_eq,q9,bif_ne,q7,qb,q4,q0,bnd_ok,lk_inl,lk_inr,Int.toNat_natCast,decide_true]
   rfl
theorem pe_up0 (j i:Nat) (hj:j < d.length):q6j (a:Int) (j:Int) d (i:Int)=some (.inl (Sort.scanUp (fun x=>!ltL d.toArray[a]! x) d.toArray j i:Int)):=by
 rw [arr_at]
 refine qmv (fun x=>!ltL (d.getD a []) x) d j (fun i=>?_) i (by omega)
 obtain ⟨e1,e2⟩:=cmp_eq hd a i
 by_cases h:i≤j
 · rw [decide_eq_true h,Bool.true_and,← e2]
   simp only [q1t,Int.toNat_natCast,e1,bnd_ok]
   simp (disch:=omega) only [ckB_ix,q6,q5,qc,ckB_mk,ckB_ne,bif_lt,q8,bif_le,qa,bif_eq,q9,bif_ne,q7,qb,q4,q0,bnd_ok,lk_inl,lk_inr,Int.toNat_natCast,decide_true]
   rw [qg]
   cases decide (cV (d.getD a []) (d.getD i []) < 0)<;>rfl
 · rw [decide_eq_false h]
   simp (disch:=omega) only [q1t,ckB_ix,q6,q5,qc,ckB_mk,ckB_ne,bif_lt,q8,bif_le,qa,bif_eq,q9,bif_ne,q7,qb,q4,q0,bnd_ok,lk_inl,lk_inr,Int.toNat_natCast,decide_true]
   rfl
theorem pe_dn1 (i j:Nat) (hi:1≤i) (hj:j < d.length):q6l (a:Int) (i:Int) d (j:Int)=some (.inl (Sort.scanDown (fun x=>ltL d.toArray[a]! x) d.toArray i j:Int)):=by
 rw [arr_at]
 refine qhw (fun x=>ltL (d.getD a []) x) d i hi (fun j hj=>?_) j hj hl
 obtain ⟨e1,e2⟩:=cmp_eq hd a j
 by_cases h:i≤j
 · rw [decide_eq_true h,Bool.true_and,← e2]
   simp only [q1u,Int.toNat_natCast,e1,bnd_ok]
   simp (disch:=omega) only [ckB_ix,q6,q5,qc,ckB_mk,ckB_ne,bif_lt,q8,bif_le,qa,bif_eq,q9,bif_ne,q7,qb,q4,q0,bnd_ok,lk_inl,lk_inr,Int.toNat_natCast,decide_true]
   cases decide (cV (d.getD a []) (d.getD j []) < 0)<;>rfl
 · rw [decide_eq_false h]
   simp (disch:=omega) only [q1u,ckB_ix,q6,q5,qc,ckB_mk,ckB_ne,bif_lt,q8,bif_le,qa,bif_eq,q9,bif_ne,q7,qb,q4,q0,bnd_ok,lk_inl,lk_inr,Int.toNat_natCast,decide_true]
   rfl
theorem q172 (i j:Nat) (hi:1≤i) (hj:j < d.length):q4m (a:Int) ((i:Int),(j:Int),d)=some (.inl (((Sort.partLoop ltL a i j d.toArray).1:Int),(Sort.partLoop ltL a i j d.toArray).2.toList)) ∧
   (Sort.partLoop ltL a i j d.toArray).1 < d.length∧(Sort.partLoop ltL a i j d.toArray).2.toList.length=d.length∧Sh (Sort.partLoop ltL a i j d.toArray).2.toList:=by
 generalize hT:Sort.partLoop ltL a i j d.toArray=T
 have hloop:∃ o,q4m (a:Int) ((i:Int),(j:Int),d)=some o∧(o=.inl ((T.1:Int),T.2.toList)∧T.1 < d.length∧T.2.toList.length=d.length∧Sh T.2.toList):=by
   refine q3e (fun (st:Int×Int×Rw)=>∃ i j:Nat,st.1=(i:Int)∧st.2.1=(j:Int)∧1≤i∧j < d.length∧st.2.2.length=d.length∧Sh st.2.2∧Sort.partLoop ltL a i j st.2.2.toArray=T) (fun st=>(st.2.1+1 - st.1).toNat) (fun (o:(Int×Rw)⊕(Int×Bool×Rw))=>o=.inl ((T.1:Int),T.2.toList)∧T.1 < d.length∧T.2.toList.length=d.length∧Sh T.2.toList) _ ⟨i,j,rfl,rfl,hi,hj,rfl,hd,hT⟩ (by show ((j:Int)+1 - (i:Int)).toNat < many; unfold many; omega) ?_
   rintro ⟨_,_,c⟩ ⟨i,j,rfl,rfl,hi,hj,hcl,hc,hT⟩
   have hcl:c.length=d.length:=hcl
   have hc:Sh c:=hc
   have hT:Sort.partLoop ltL a i j c.toArray=T:=hT
   have u:=pt_up2 a c hc (by omega) (by omega) j i (by omega)
   have hu:=qrz (fun x=>ltL x c.toArray[a]!) c.toArray j _ i rfl
   rw [Sort.partLoop] at hT
   generalize Sort.scanUp (fun x=>ltL x c.toArray[a]!) c.toArray j i=i2 at u hu hT
   have v:=pt_dn3 a c hc (by omega) (by omega) i2 j (by omega) (by omega)
   have hv:=qi7 (fun x=>!ltL x c.toArray[a]!) c.toArray i2 j
   generalize Sort.scanDown (fun x=>!ltL x c.toArray[a]!) c.toArray i2 j=j2 at v hv hT
   by_cases h:i2 > j2
   · rw [if_pos h] at hT
     subst hT
     refine ⟨.done ((j2:Int),c),?_,rfl,by show j2 < d.length; omega,hcl,hc⟩
     simp only [q2i,u,bnd_ok,lk_inl,v]
     simp (disch:=omega) only [ckB_ix,q6,q5,qc,ckB_mk,ckB_ne,bif_lt,q8,bif_le,qa,bif_eq,q9,bif_ne,q7,qb,q4,q0,bnd_ok,lk_inl,lk_inr,Int.toNat_natCast,decide_true]
   · rw [if_neg h,dif_pos (by omega),q2w] at hT
     have e:(j2:Int) - 1=((j2 - 1:Nat):Int):=by omega
     refine ⟨.next (((i2+1:Nat):Int),((j2 - 1:Nat):Int),swL c i2 j2),?_,⟨i2+1,j2 - 1,rfl,rfl,by omega,by omega,(q3p _ _ _).trans hcl,swL_sh hc _ _,hT⟩,by show (((j2 - 1:Nat):Int)+1 - ((i2+1:Nat):Int)).toNat < ((j:Int)+1 - (i:Int)).toNat; omega⟩
     simp only [q2i,u,bnd_ok,lk_inl,v,e,Int.toNat_natCast,List.length_set,qay]
     simp (disch:=omega) only [ckB_ix,q6,q5,qc,ckB_mk,ckB_ne,bif_lt,q8,bif_le,qa,bif_eq,q9,bif_ne,q7,qb,q4,q0,bnd_ok,lk_inl,lk_inr,Int.toNat_natCast,decide_true]
     rw [qg]
 obtain ⟨o,ho,rfl,h⟩:=hloop
 exact ⟨ho,h⟩
theorem q16i (i j:Nat) (hi:1≤i) (hj:j < d.length) (hij:i≤d.length):q38 (a:Int) ((i:Int),(j:Int),d)=some (.inl (((Sort.partEqLoop ltL a i j d.toArray).1:Int),(Sort.partEqLoop ltL a i j d.toArray).2.toList)):=by
 generalize hT:Sort.partEqLoop ltL a i j d.toArray=T
 have hloop:∃ o,q38 (a:Int) ((i:Int),(j:Int),d)=some o∧o=.inl ((T.1:Int),T.2.toList):=by
   refine q3e (fun (st:Int×Int×Rw)=>∃ i j:Nat,st.1=(i:Int)∧st.2.1=(j:Int)∧1≤i∧j < d.length∧i≤d.length∧st.2.2.length=d.length∧Sh st.2.2∧Sort.partEqLoop ltL a i j st.2.2.toArray=T) (fun st=>(st.2.1+1 - st.1).toNat) (fun (o:(Int×Rw)⊕(Int×Rw))=>o=.inl ((T.1:Int),T.2.toList)) _ ⟨i,j,rfl,rfl,hi,hj,hij,rfl,hd,hT⟩ (by show ((j:Int)+1 - (i:Int)).toNat < many; unfold many; omega) ?_
   rintro ⟨_,_,c⟩ ⟨i,j,rfl,rfl,hi,hj,hij,hcl,hc,hT⟩
   have hcl:c.length=d.length:=hcl
   have hc:Sh c:=hc
   have hT:Sort.partEqLoop ltL a i j c.toArray=T:=hT
   have u:=pe_up0 a c hc (by omega) (by omega) j i (by omega)
   have hu:=qrz (fun x=>!ltL c.toArray[a]! x) c.toArray j _ i rfl
   rw [Sort.partEqLoop] at hT
   generalize Sort.scanUp (fun x=>!ltL c.toArray[a]! x) c.toArray j i=i2 at u hu hT
   have v:=pe_dn1 a c hc (by omega) (by omega) i2 j (by omega) (by omega)
   have hv:=qi7 (fun x=>ltL c.toArray[a]! x) c.toArray i2 j
   generalize Sort.scanDown (fun x=>ltL c.toArray[a]! x) c.toArray i2 j=j2 at v hv hT
   by_cases h:i2 > j2
   · rw [if_pos h] at hT
     subst hT
     refine ⟨.done ((i2:Int),c),?_,rfl⟩
     simp only [q1v,u,bnd_ok,lk_inl,v]
     simp (disch:=omega) only [ckB_ix,q6,q5,qc,ckB_mk,ckB_ne,bif_lt,q8,bif_le,qa,bif_eq,q9,bif_ne,q7,qb,q4,q0,bnd_ok,lk_inl,lk_inr,Int.toNat_natCast,decide_true]
   · rw [if_neg h,dif_pos (by omega),q2w] at hT
     have e:(j2:Int) - 1=((j2 - 1:Nat):Int):=by omega
     refine ⟨.next (((i2+1:Nat):Int),((j2 - 1:Nat):Int),swL c i2 j2),?_,⟨i2+1,j2 - 1,rfl,rfl,by omega,by omega,by omega,(q3p _ _ _).trans hcl,swL_sh hc _ _,hT⟩,by show (((j2 - 1:Nat):Int)+1 - ((i2+1:Nat):Int)).toNat < ((j:Int)+1 - (i:Int)).toNat; omega⟩
     simp only [q1v,u,bnd_ok,lk_inl,v,e,Int.toNat_natCast,List.length_set,qay]
     simp (disch:=omega) only [ckB_ix,q6,q5,qc,ckB_mk,ckB_ne,bif_lt,q8,bif_le,qa,bif_eq,q9,bif_ne,q7,qb,q4,q0,bnd_ok,lk_inl,lk_inr,Int.toNat_natCast,decide_true]
     rw [qg]
 obtain ⟨o,ho,rfl⟩:=hloop
 exact ho
theorem pt_eq (b pivot:Nat) (hab:a < b) (hb:b≤d.length) (hp:pivot < b):q2z (a:Int) (b:Int) (pivot:Int) d=some (((Sort.partition ltL d.toArray a b pivot).1:Int),(Sort.partition ltL d.toArray a b pivot).2.1,(Sort.partition ltL d.toArray a b pivot).2.2.toList):=by
 have hsl:=q3p d a pivot
 have hsh:=swL_sh hd a pivot
 have u:=pt_up0 a (swL d a pivot) hsh (by omega) (by omega) (b - 1) (a+1) (by omega)
 have hu:=qrz (fun x=>ltL x (swL d a pivot).toArray[a]!) (swL d a pivot).toArray (b - 1) _ (a+1) rfl
 unfold Sort.partition
 rw [q2w]
 simp only
 generalize Sort.scanUp (fun x=>ltL x (swL d a pivot).toArray[a]!) (swL d a pivot).toArray (b - 1) (a+1)=i2 at u hu
 have v:=pt_dn1 a (swL d a pivot) hsh (by omega) (by omega) i2 (b - 1) (by omega) (by omega)
 have hv:=qi7 (fun x=>!ltL x (swL d a pivot).toArray[a]!) (swL d a pivot).toArray i2 (b - 1)
 generalize Sort.scanDown (fun x=>!ltL x (swL d a pivot).toArray[a]!) (swL d a pivot).toArray i2 (b - 1)=j2 at v hv
 have e0:(b:Int) - 1=((b - 1:Nat):Int):=by omega
 have e1:(a:Int)+1=((a+1:Nat):Int):=rfl
 unfold q2z
 simp only [e0,e1,Int.toNat_natCast,List.length_set,qay,u,bnd_ok,lk_inl,v,hsl]
 by_cases h:i2 > j2
 · rw [if_pos h,q2w]
   simp (disch:=omega) only [ckB_ix,q6,q5,qc,ckB_mk,ckB_ne,bif_lt,q8,bif_le,qa,bif_eq,q9,bif_ne,q7,qb,q4,q0,bnd_ok,lk_inl,lk_inr,Int.toNat_natCast,decide_true]
 · rw [if_neg h,q2w]
   have e2:(j2:Int) - 1=((j2 - 1:Nat):Int):=by omega
   have e3:(i2:Int)+1=((i2+1:Nat):Int):=rfl
   have hsl2:=q3p (swL d a pivot) i2 j2
   obtain ⟨w,w1,w2,w3⟩:=q172 a (swL (swL d a pivot) i2 j2) (swL_sh hsh _ _) (by omega) (by omega) (i2+1) (j2 - 1) (by omega) (by omega)
   generalize Sort.partLoop ltL a (i2+1) (j2 - 1) (swL (swL d a pivot) i2 j2).toArray=T at w w1 w2 w3
   obtain ⟨T1,T2⟩:=T
   have w2:T2.toList.length=(swL (swL d a pivot) i2 j2).length:=w2
   have w1:T1 < (swL (swL d a pivot) i2 j2).length:=w1
   have esw:Sort.swp T2 T1 a=(swL T2.toList T1 a).toArray:=by
     rw [← q2w]
   simp only [e2,e3,w,bnd_ok,lk_inl,Int.toNat_natCast,qay,esw]
   simp (disch:=omega) only [ckB_ix,q6,q5,qc,ckB_mk,ckB_ne,bif_lt,q8,bif_le,qa,bif_eq,q9,bif_ne,q7,qb,q4,q0,bnd_ok,lk_inl,lk_inr,Int.toNat_natCast,decide_true]
theorem pe_eq (b pivot:Nat) (hab:a < b) (hb:b≤d.length) (hp:pivot < b):qh (a:Int) (b:Int) (pivot:Int) d=some (((Sort.partitionEqual ltL d.toArray a b pivot).1:Int),(Sort.partitionEqual ltL d.toArray a b pivot).2.toList):=by
 have hsl:=q3p d a pivot
 have hsh:=swL_sh hd a pivot
 have w:=q16i a (swL d a pivot) hsh (by omega) (by omega) (a+1) (b - 1) (by omega) (by omega) (by omega)
 unfold Sort.partitionEqual
 rw [q2w]
 have e0:(b:Int) - 1=((b - 1:Nat):Int):=by omega
 have e1:(a:Int)+1=((a+1:Nat):Int):=rfl
 unfold qh
 simp only [e0,e1,Int.toNat_natCast,List.length_set,qay,w,bnd_ok,lk_inl]
 simp (disch:=omega) only [ckB_ix,q6,q5,qc,ckB_mk,ckB_ne,bif_lt,q8,bif_le,qa,bif_eq,q9,bif_ne,q7,qb,q4,q0,bnd_ok,lk_inl,lk_inr,Int.toNat_natCast,decide_true]
end
end Go.Proofs.Ythakmiiaejhlbaa
