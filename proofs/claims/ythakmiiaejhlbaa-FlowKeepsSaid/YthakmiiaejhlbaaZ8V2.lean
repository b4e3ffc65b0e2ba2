/-
  Sorting rows of numbers: the heap; reversing.
-/
import Derived.Test.YthakmiiaejhlbaaZ8V1
set_option linter.all false
namespace Go.Proofs.Ythakmiiaejhlbaa
open Go.K Go.M
theorem q10x (hi first r ch:Int) (fn rn cn:Nat) (hf:first=(fn:Int)) (hr:r=(rn:Int)) (hc:ch=(cn:Int)) (d:Rw) (hd:Sh d) (h1:fn+rn < d.length) (h2:fn+cn < d.length) (hl:d.length≤1000000) :
   q1w hi first r ch d=some (bif ltL (d.getD (fn+rn) []) (d.getD (fn+cn) []) then .inl (swL d (fn+rn) (fn+cn)) else .inr d):=by
 subst hf hr hc
 obtain ⟨e1,e2⟩:=cmp_eq hd (fn+rn) (fn+cn)
 have a1:(fn:Int)+(rn:Int)=((fn+rn:Nat):Int):=rfl
 have a2:(fn:Int)+(cn:Int)=((fn+cn:Nat):Int):=rfl
 unfold q1w
 simp only [q4j,a1,a2,Int.toNat_natCast,e1,bnd_ok,e2,List.length_set]
 simp (disch:=omega) only [ckB_ix,q6,q5,qc,ckB_mk,ckB_ne,bif_lt,q8,bif_le,qa,bif_eq,q9,bif_ne,q7,qb,q4,q0,bnd_ok,lk_inl,lk_inr,Int.toNat_natCast,decide_true]
 cases ltL (d.getD (fn+rn) []) (d.getD (fn+cn) [])<;>rfl
theorem q11h (lo hi first:Nat) (d:Rw) (hd:Sh d) (hh:first+hi≤d.length) (hl:d.length≤1000000) (hlo:lo≤1000000) :
   q25 (lo:Int) (hi:Int) (first:Int) d=some (Sort.siftDown ltL hi first lo d.toArray).toList∧(Sort.siftDown ltL hi first lo d.toArray).toList.length=d.length∧Sh (Sort.siftDown ltL hi first lo d.toArray).toList:=by
 generalize hT:Sort.siftDown ltL hi first lo d.toArray=T
 have hloop:∃ o,q90 (hi:Int) (first:Int) ((lo:Int),d)=some o∧(lk o (fun e=>some e) (fun r=>some r)=some T.toList∧T.toList.length=d.length∧Sh T.toList):=by
   refine q3e (fun (st:Int×Rw)=>∃ k:Nat,st.1=(k:Int)∧(k≤lo∨k < hi)∧st.2.length=d.length∧Sh st.2∧Sort.siftDown ltL hi first k st.2.toArray=T) (fun st=>((hi:Int) - st.1).toNat) (fun (o:Rw⊕Rw)=>lk o (fun e=>some e) (fun r=>some r)=some T.toList∧T.toList.length=d.length∧Sh T.toList) _ ⟨lo,rfl,.inl (Nat.le_refl _),rfl,hd,hT⟩ (by show ((hi:Int) - (lo:Int)).toNat < many; unfold many; omega) ?_
   rintro ⟨_,c⟩ ⟨k,rfl,hk,hcl,hc,hT⟩
   have hcl:c.length=d.length:=hcl
   have hc:Sh c:=hc
   have hT:Sort.siftDown ltL hi first k c.toArray=T:=hT
   rw [Sort.siftDown] at hT
   by_cases h1:2*k+1 ≥ hi
   · rw [dif_pos h1] at hT
     subst hT
     refine ⟨.done c,?_,rfl,hcl,hc⟩
     have h1':(hi:Int)≤2*(k:Int)+1:=by omega
     simp only [qp]
     simp (disch:=omega) only [ckB_ix,q6,q5,qc,ckB_mk,ckB_ne,bif_lt,q8,bif_le,qa,bif_eq,q9,bif_ne,q7,qb,q4,q0,bnd_ok,lk_inl,lk_inr,Int.toNat_natCast,decide_true]
   · rw [dif_neg h1] at hT
     have h1':¬ (hi:Int)≤2*(k:Int)+1:=by omega
     have e0:(2:Int)*(k:Int)+1=((2*k+1:Nat):Int):=by omega
     have e0':((2*k+1:Nat):Int)+1=((2*k+2:Nat):Int):=by omega
     have e4:(first:Int)+((2*k+1:Nat):Int)=((first+(2*k+1):Nat):Int):=rfl
     have e5:((first+(2*k+1):Nat):Int)+1=((first+(2*k+1)+1:Nat):Int):=rfl
     simp only [arr_at] at hT
     have t1:=q10x (hi:Int) (first:Int) (k:Int) ((2*k+1:Nat):Int) first k (2*k+1) rfl rfl rfl c hc (by omega) (by omega) (by omega)
     have hin1:inR .i64 (2*(k:Int))=true:=qhn (by omega) (by omega)
     have hin2:inR .i64 ((2*k+1:Nat):Int)=true:=qhn (by omega) (by omega)
     have hin3:inR .i64 ((2*k+2:Nat):Int)=true:=qhn (by omega) (by omega)
     by_cases h2:2*k+1+1 < hi
     · obtain ⟨c1,c2⟩:=cmp_eq hc (first+(2*k+1)) (first+(2*k+1)+1)
       have t2:=q10x (hi:Int) (first:Int) (k:Int) ((2*k+2:Nat):Int) first k (2*k+2) rfl rfl rfl c hc (by omega) (by omega) (by omega)
       have h2':((2*k+2:Nat):Int) < (hi:Int):=by omega
       cases hlt:ltL (c.getD (first+(2*k+1)) []) (c.getD (first+(2*k+1)+1) []) with
       | true =>
         rw [hlt] at hT c2
         rw [if_pos (by simp; omega)] at hT
         cases hlt2:ltL (c.getD (first+k) []) (c.getD (first+(2*k+2)) []) with
         | false =>
           rw [hlt2] at hT t2
           rw [if_pos (by rfl)] at hT
           subst hT
           refine ⟨.ret c,?_,rfl,hcl,hc⟩
           simp only [qp,e0,e0',hin1,hin2,hin3,q9w,e4,e5,Int.toNat_natCast,c1,bnd_ok,c2,t2]
           simp (disch:=omega) only [ckB_ix,q6,q5,qc,ckB_mk,ckB_ne,bif_lt,q8,bif_le,qa,bif_eq,q9,bif_ne,q7,qb,q4,q0,bnd_ok,lk_inl,lk_inr,Int.toNat_natCast,decide_true]
         | true =>
           rw [hlt2] at hT t2
           rw [if_neg (by simp),dif_pos (by omega),q2w] at hT
           refine ⟨.next (((2*k+2:Nat):Int),swL c (first+k) (first+(2*k+2))),?_,⟨2*k+2,rfl,.inr (by omega),(q3p _ _ _).trans hcl,swL_sh hc _ _,hT⟩,by show ((hi:Int) - ((2*k+2:Nat):Int)).toNat < ((hi:Int) - (k:Int)).toNat; omega⟩
           simp only [qp,e0,e0',hin1,hin2,hin3,q9w,e4,e5,Int.toNat_natCast,c1,bnd_ok,c2,t2]
           simp (disch:=omega) only [ckB_ix,q6,q5,qc,ckB_mk,ckB_ne,bif_lt,q8,bif_le,qa,bif_eq,q9,bif_ne,q7,qb,q4,q0,bnd_ok,lk_inl,lk_inr,Int.toNat_natCast,decide_true]
       | false =>
         rw [hlt] at hT c2
         rw [if_neg (by simp)] at hT
         cases hlt2:ltL (c.getD (first+k) []) (c.getD (first+(2*k+1)) []) with
         | false =>
           rw [hlt2] at hT t1
           rw [if_pos (by rfl)] at hT
           subst hT
           refine ⟨.ret c,?_,rfl,hcl,hc⟩
           simp only [qp,e0,e0',hin1,hin2,hin3,q9w,e4,e5,Int.toNat_natCast,c1,bnd_ok,c2,t1]
           simp (disch:=omega) only [ckB_ix,q6,q5,qc,ckB_mk,ckB_ne,bif_lt,q8,bif_le,qa,bif_eq,q9,bif_ne,q7,qb,q4,q0,bnd_ok,lk_inl,lk_inr,Int.toNat_natCast,decide_true]
         | true =>
           rw [hlt2] at hT t1
           rw [if_neg (by simp),q2w] at hT
           refine ⟨.next (((2*k+1:Nat):Int),swL c (first+k) (first+(2*k+1))),?_,⟨2*k+1,rfl,.inr (by omega),(q3p _ _ _).trans hcl,swL_sh hc _ _,hT⟩,by show ((hi:Int) - ((2*k+1:Nat):Int)).toNat < ((hi:Int) - (k:Int)).toNat; omega⟩
           simp only [qp,e0,e0',hin1,hin2,hin3,q9w,e4,e5,Int.toNat_natCast,c1,bnd_ok,c2,t1]
           simp (disch:=omega) only [ckB_ix,q6,q5,qc,ckB_mk,ckB_ne,bif_lt,q8,bif_le,qa,bif_eq,q9,bif_ne,q7,qb,q4,q0,bnd_ok,lk_inl,lk_inr,Int.toNat_natCast,decide_true]
     · rw [if_neg (by simp; omega)] at hT
       have h2':¬ ((2*k+2:Nat):Int) < (hi:Int):=by omega
       cases hlt2:ltL (c.getD (first+k) []) (c.getD (first+(2*k+1)) []) with
       | false =>
         rw [hlt2] at hT t1
         rw [if_pos (by rfl)] at hT
         subst hT
         refine ⟨.ret c,?_,rfl,hcl,hc⟩
         simp only [qp,e0,e0',hin1,hin2,hin3,q9w,e4,e5,Int.toNat_natCast,bnd_ok,t1]
         simp (disch:=omega) only [ckB_ix,q6,q5,qc,ckB_mk,ckB_ne,bif_lt,q8,bif_le,qa,bif_eq,q9,bif_ne,q7,qb,q4,q0,bnd_ok,lk_inl,lk_inr,Int.toNat_natCast,decide_true]
       | true =>
         rw [hlt2] at hT t1
         rw [if_neg (by simp),q2w] at hT
         refine ⟨.next (((2*k+1:Nat):Int),swL c (first+k) (first+(2*k+1))),?_,⟨2*k+1,rfl,.inr (by omega),(q3p _ _ _).trans hcl,swL_sh hc _ _,hT⟩,by show ((hi:Int) - ((2*k+1:Nat):Int)).toNat < ((hi:Int) - (k:Int)).toNat; omega⟩
         simp only [qp,e0,e0',hin1,hin2,hin3,q9w,e4,e5,Int.toNat_natCast,bnd_ok,t1]
         simp (disch:=omega) only [ckB_ix,q6,q5,qc,ckB_mk,ckB_ne,bif_lt,q8,bif_le,qa,bif_eq,q9,bif_ne,q7,qb,q4,q0,bnd_ok,lk_inl,lk_inr,Int.toNat_natCast,decide_true]
 obtain ⟨o,ho,h1,h2,h3⟩:=hloop
 refine ⟨?_,h2,h3⟩
 unfold q25
 rw [ho,bnd_ok]
 exact h1
theorem qrj (hi first:Nat) (lo9:Int):∀ (k:Nat) (d:Rw),Sh d→first+hi≤d.length→d.length≤1000000→k≤1000000→∀ m,k < m →
   iter (fun a=>q1s (R:=LR (Int×Rw) Rw Rw) (first:Int) lo9 (hi:Int) a.1 a.2 (fun a'=>some (.next a')) (fun e=>some (.done e)) (fun r=>some (.ret r))) m ((k:Int) - 1,d)=some (.inl (Sort.heapBuild ltL hi first k d.toArray).toList) ∧
     (Sort.heapBuild ltL hi first k d.toArray).toList.length=d.length∧Sh (Sort.heapBuild ltL hi first k d.toArray).toList
 | 0, d, hd, hh, hl, _, m, hm => by
   obtain ⟨m,rfl⟩:∃ q,m=q+1:=⟨m - 1,by omega⟩
   refine ⟨?_,rfl,hd⟩
   rw [q41]
   have:decide ((0:Int)≤((0:Nat):Int) - 1)=false:=by decide
   simp only [q1s,this,cond_false,bnd_ok]
   rfl
 | k + 1, d, hd, hh, hl, hk, m, hm => by
   obtain ⟨m,rfl⟩:∃ q,m=q+1:=⟨m - 1,by omega⟩
   obtain ⟨e1,e2,e3⟩:=q11h k hi first d hd hh hl (by omega)
   have ih:=qrj hi first lo9 k (Sort.siftDown ltL hi first k d.toArray).toList e3 (by omega) (by omega) (by omega) m (by omega)
   rw [e2] at ih
   refine ⟨?_,ih.2⟩
   rw [q41]
   have c1:((k+1:Nat):Int) - 1=(k:Int):=by omega
   have c2:decide ((0:Int)≤(k:Int))=true:=decide_eq_true (by omega)
   simp only [q1s,c1,c2,cond_true,e1,bnd_ok,e2,decide_true,q9w]
   rw [q6 (by omega) (by omega)]
   exact ih.1
theorem quw (first:Nat):∀ (k:Nat) (d:Rw),Sh d→first+k≤d.length→d.length≤1000000→∀ m,k < m →
   iter (fun a=>q16 (R:=LR (Int×Rw) Rw Rw) (first:Int) 0 a.1 a.2 (fun a'=>some (.next a')) (fun e=>some (.done e)) (fun r=>some (.ret r))) m ((k:Int) - 1,d)=some (.inl (Sort.heapPop ltL first k d.toArray).toList)
 | 0, d, hd, hh, hl, m, hm => by
   obtain ⟨m,rfl⟩:∃ q,m=q+1:=⟨m - 1,by omega⟩
   rw [q41]
   have:decide ((0:Int)≤((0:Nat):Int) - 1)=false:=by decide
   simp only [q16,this,cond_false,bnd_ok]
   rfl
 | k + 1, d, hd, hh, hl, m, hm => by
   obtain ⟨m,rfl⟩:∃ q,m=q+1:=⟨m - 1,by omega⟩
   have hs:=q3p d first (first+k)
   obtain ⟨e1,e2,e3⟩:=q11h 0 k first (swL d first (first+k)) (swL_sh hd _ _) (by omega) (by omega) (by omega)
   have ih:=quw first k (Sort.siftDown ltL k first 0 (swL d first (first+k)).toArray).toList e3 (by omega) (by omega) m (by omega)
   rw [q41]
   have c1:((k+1:Nat):Int) - 1=(k:Int):=by omega
   have c2:decide ((0:Int)≤(k:Int))=true:=decide_eq_true (by omega)
   have c3:(first:Int)+(k:Int)=((first+k:Nat):Int):=rfl
   have c4:((0:Nat):Int)=0:=rfl
   rw [c4] at e1
   have hstep:q16 (R:=LR (Int×Rw) Rw Rw) (first:Int) 0 (k:Int) d (fun a'=>some (.next a')) (fun e=>some (.done e)) (fun r=>some (.ret r))=some (.next ((k:Int) - 1,(Sort.siftDown ltL k first 0 (swL d first (first+k)).toArray).toList)):=by
     simp only [q16,c2,cond_true,c3,Int.toNat_natCast,qay,e1,bnd_ok,e2,hs,List.length_set,decide_true,q9w]
     simp (disch:=omega) only [ckB_ix,q6,q5,qc,ckB_mk,ckB_ne,bif_lt,q8,bif_le,qa,bif_eq,q9,bif_ne,q7,qb,q4,q0,bnd_ok,lk_inl,lk_inr,Int.toNat_natCast,decide_true]
   rw [c1]
   refine (bnd_eq hstep _).trans ?_
   show lr (LR.next ((k:Int) - 1,_)) _=_
   rw [Sort.heapPop,q2w]
   exact ih
theorem q16y (a b:Nat) (d:Rw) (hd:Sh d) (hab:a≤b) (hb:b≤d.length) (hl:d.length≤1000000):q27 (a:Int) (b:Int) d=some (Sort.heapSort ltL d.toArray a b).toList:=by
 have c1:(b:Int) - (a:Int)=((b - a:Nat):Int):=by omega
 have c2:Int.tdiv (((b - a:Nat):Int) - 1) 2=(((b - a - 1) / 2+1:Nat):Int) - 1:=by
   rcases Nat.eq_zero_or_pos (b - a) with h | h
   · rw [h]; rfl
   · have:((b - a:Nat):Int) - 1=((b - a - 1:Nat):Int):=by omega
     rw [this,Int.tdiv_eq_ediv_of_nonneg (by omega)]
     omega
 obtain ⟨h1,h2,h3⟩:=qrj (b - a) a 0 ((b - a - 1) / 2+1) d hd (by omega) hl (by omega) many (by unfold many; omega)
 have h4:=quw a (b - a) (Sort.heapBuild ltL (b - a) a ((b - a - 1) / 2+1) d.toArray).toList h3 (by omega) (by omega) many (by unfold many; omega)
 unfold q27
 rw [c1]
 have i1:inR .i64 ((b - a:Nat):Int)=true:=qhn (by omega) (by omega)
 have i2:inR .i64 (((b - a:Nat):Int) - 1)=true:=qhn (by omega) (by omega)
 have i3:inR .i64 ((((b - a - 1) / 2+1:Nat):Int) - 1)=true:=qhn (by omega) (by omega)
 rw [c2,i1,i2,i3]
 show bnd (loopM _ _) _=_
 unfold loopM
 rw [h1]
 show bnd (loopM _ _) _=_
 unfold loopM
 rw [h4]
 rfl
theorem q12x (a b:Nat) (d:Rw) (hd:Sh d) (hab:a < b) (hb:b≤d.length) (hl:d.length≤1000000):q15 (a:Int) (b:Int) d=some (Sort.reverseRange d.toArray a b).toList:=by
 have hL:∃ o,q7a ((a:Int),((b - 1:Nat):Int),d)=some o∧o=.inl (Sort.reverseRange d.toArray a b).toList:=by
   unfold Sort.reverseRange
   generalize hT:Sort.reverseLoop a (b - 1) d.toArray=T
   refine q3e (fun (st:Int×Int×Rw)=>∃ i j:Nat,st.1=(i:Int)∧st.2.1=(j:Int)∧(i < b∧j < b)∧st.2.2.length=d.length∧Sort.reverseLoop i j st.2.2.toArray=T) (fun st=>(st.2.1 - st.1).toNat) (fun (o:Rw⊕Rw)=>o=.inl T.toList) _ ⟨a,b - 1,rfl,rfl,⟨by omega,by omega⟩,rfl,hT⟩ (by show (((b - 1:Nat):Int) - (a:Int)).toNat < many; unfold many; omega) ?_
   rintro ⟨_,_,c⟩ ⟨i,j,rfl,rfl,⟨hi,hj⟩,hcl,hT⟩
   have hcl:c.length=d.length:=hcl
   have hT:Sort.reverseLoop i j c.toArray=T:=hT
   rw [Sort.reverseLoop] at hT
   by_cases h:i < j
   · rw [if_pos h,q2w] at hT
     have e:(j:Int) - 1=((j - 1:Nat):Int):=by omega
     refine ⟨.next (((i+1:Nat):Int),((j - 1:Nat):Int),swL c i j),?_,⟨i+1,j - 1,rfl,rfl,⟨by omega,by omega⟩,(q3p _ _ _).trans hcl,hT⟩,by show (((j - 1:Nat):Int) - ((i+1:Nat):Int)).toNat < ((j:Int) - (i:Int)).toNat; omega⟩
     simp only [q21,e,Int.toNat_natCast,List.length_set,qay]
     simp (disch:=omega) only [ckB_ix,q6,q5,qc,ckB_mk,ckB_ne,bif_lt,q8,bif_le,qa,bif_eq,q9,bif_ne,q7,qb,q4,q0,bnd_ok,lk_inl,lk_inr,Int.toNat_natCast,decide_true]
     rw [qg]
   · rw [if_neg h] at hT
     refine ⟨.done c,?_,by rw [← hT]⟩
     simp (disch:=omega) only [q21,ckB_ix,q6,q5,qc,ckB_mk,ckB_ne,bif_lt,q8,bif_le,qa,bif_eq,q9,bif_ne,q7,qb,q4,q0,bnd_ok,lk_inl,lk_inr,Int.toNat_natCast,decide_true]
 obtain ⟨_,ho,rfl⟩:=hL
 have e:(b:Int) - 1=((b - 1:Nat):Int):=by omega
 unfold q15
 rw [e,q6 (by omega) (by omega),ho]
 rfl
end Go.Proofs.Ythakmiiaejhlbaa
