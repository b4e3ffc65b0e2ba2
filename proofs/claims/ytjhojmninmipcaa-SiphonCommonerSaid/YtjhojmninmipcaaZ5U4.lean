/-
  Siphon: firing and runs; the law SiphonStays.
-/
import Derived.Test.YtjhojmninmipcaaZ5U3
set_option linter.all false
namespace Go.Proofs.Ytjhojmninmipcaa
open Go.K Go.M
def tokB (k:Int):Bool:=decide (k < 0) || decide (100 < k)
def markB (N:Int) (m:List Int):Bool:=decide ((m.length:Int)=N) && !m.any tokB
theorem qtn {N:Int} {m:List Int}:markB N m=true ↔ (m.length:Int)=N ∧ ∀ i,i < m.length → 0 ≤ m.getD i 0 ∧ m.getD i 0 ≤ 100:=by
  unfold markB
  rw [Bool.and_eq_true,decide_eq_true_eq,Bool.not_eq_true',List.any_eq_false]
  constructor
  · rintro ⟨h1,h2⟩
    refine ⟨h1,fun i hi=>?_⟩
    have:=h2 _ (qr 0 hi)
    unfold tokB at this
    simp only [Bool.or_eq_true,decide_eq_true_eq,not_or] at this
    omega
  · rintro ⟨h1,h2⟩
    refine ⟨h1,fun x hx=>?_⟩
    obtain ⟨i,hi,rfl⟩:=qiq 0 hx
    have:=h2 i hi
    unfold tokB
    simp only [Bool.or_eq_true,decide_eq_true_eq,not_or]
    omega
theorem q109 (n:Net) (m:List Int) (hm:m.length ≤ 1000000):qez n m=some (markB n.1 m):=by
  have hL:qo7 m 0=some (bif m.any tokB then .inr false else .inl ()):=by
    refine qbu m 0 tokB false (by omega) (fun i hi=>?_) ?_
    · unfold tokB
      simp (disch:=omega) only [qbn,ckB_ix,q7,q6,qa,ckB_mk,ckB_ne,bif_lt,q8,bif_le,qb,bif_eq,qc,bif_ne,qd,q9,q5,q4,bnd_ok,lk_inl,lk_inr,Int.toNat_natCast,decide_true]
      rw [qg]
      cases decide (m.getD i 0 < 0) <;> cases decide (100 < m.getD i 0) <;> rfl
    · simp (disch:=omega) only [qbn,ckB_ix,q7,q6,qa,ckB_mk,ckB_ne,bif_lt,q8,bif_le,qb,bif_eq,qc,bif_ne,qd,q9,q5,q4,bnd_ok,lk_inl,lk_inr,Int.toNat_natCast,decide_true]
  unfold qez markB
  rw [hL]
  cases decide ((m.length:Int)=n.1) <;> cases m.any tokB <;> rfl
theorem qx6 {n:Net} (h:Small n) (m:List Int) (hm:m.length ≤ 1000000):qc4 n m=some (validN n && markB n.1 m):=by
  have hL:qae m (m.length:Int) 0=some (fOut (fun i=>(i:Int)) (fidx tokB m)):=by
    refine q74 m 0 tokB (fun i=>(i:Int)) (by omega) (fun i hi=>?_) ?_
    · unfold tokB
      simp (disch:=omega) only [q3b,qh4,ckB_ix,q7,q6,qa,ckB_mk,ckB_ne,bif_lt,q8,bif_le,qb,bif_eq,qc,bif_ne,qd,q9,q5,q4,bnd_ok,lk_inl,lk_inr,Int.toNat_natCast,decide_true]
      rw [qg]
      cases decide (m.getD i 0 < 0) <;> cases decide (100 < m.getD i 0) <;> rfl
    · simp (disch:=omega) only [q3b,ckB_ix,q7,q6,qa,ckB_mk,ckB_ne,bif_lt,q8,bif_le,qb,bif_eq,qc,bif_ne,qd,q9,q5,q4,bnd_ok,lk_inl,lk_inr,Int.toNat_natCast,decide_true]
  have hC:q3a m=some (m.any tokB):=by
    unfold q3a q77
    rw [hL,bnd_ok,qg9,bnd_ok,qiw]
  unfold qc4 markB
  rw [qwk h,hC]
  cases validN n <;> cases decide ((m.length:Int)=n.1) <;> cases m.any tokB <;> rfl
theorem qxw {n:Net} (hv:validN n=true) {t:Trans} (ht:t ∈ n.2.1):setB n.1 t.2.1=true ∧ setB n.1 t.2.2.1=true:=by
  unfold validN at hv
  simp only [Bool.and_eq_true,Bool.not_eq_true'] at hv
  have:=List.any_eq_false.1 hv.1.1.2 t ht
  unfold badT at this
  simp only [Bool.or_eq_true,Bool.not_eq_true',not_or,Bool.not_eq_false] at this
  exact ⟨this.1.2,this.2⟩
def canB (t:Trans) (m:List Int):Bool:=!t.2.1.any fun p=>decide (m.getD p.toNat 0=0)
theorem q14e (t:Trans) (m:List Int) (ht:t.2.1.length ≤ 1000000) (hb:∀ p ∈ t.2.1,0 ≤ p ∧ p < m.length):qc5 t m=some (canB t m):=by
  have hL:qaf t.2.1 m (t.2.1.length:Int) 0=some (fOut (fun i=>(i:Int)) (fidx (fun p=>decide (m.getD p.toNat 0=0)) t.2.1)):=by
    refine q74 t.2.1 0 (fun p=>decide (m.getD p.toNat 0=0)) (fun i=>(i:Int)) (by omega) (fun i hi=>?_) ?_
    · have:=hb _ (qr 0 hi)
      simp (disch:=omega) only [q3e,qhl,ckB_ix,q7,q6,qa,ckB_mk,ckB_ne,bif_lt,q8,bif_le,qb,bif_eq,qc,bif_ne,qd,q9,q5,q4,bnd_ok,lk_inl,lk_inr,Int.toNat_natCast,decide_true]
      rw [qg]
      cases decide (m.getD (t.2.1.getD i 0).toNat 0=0) <;> rfl
    · simp (disch:=omega) only [q3e,ckB_ix,q7,q6,qa,ckB_mk,ckB_ne,bif_lt,q8,bif_le,qb,bif_eq,qc,bif_ne,qd,q9,q5,q4,bnd_ok,lk_inl,lk_inr,Int.toNat_natCast,decide_true]
  unfold qc5 q5l q7c canB
  rw [hL,bnd_ok,qg9,bnd_ok,bnd_ok,qiw]
structure Fired (n:Net) (m:List Int) (t:Trans) (x:List Int):Prop where
  mem:t ∈ n.2.1
  can:∀ p ∈ t.2.1,1 ≤ m.getD p.toNat 0
  len:x.length=m.length
  at_:∀ q:Nat,x.getD q 0=m.getD q 0 + (if (q:Int) ∈ t.2.1 then -1 else 0) + (if (q:Int) ∈ t.2.2.1 then 1 else 0)
  mark:markB n.1 x=true
def mkdB (m l:List Int):Bool:=l.any fun p=>decide (0 < m.getD p.toNat 0)
theorem q15o (m l:List Int) (hl:l.length ≤ 1000000) (hb:∀ p ∈ l,0 ≤ p ∧ p < m.length):qha m l=some (mkdB m l):=by
  have hL:qqb m l 0=some (bif l.any (fun p=>decide (0 < m.getD p.toNat 0)) then .inr true else .inl ()):=by
    refine qbu l 0 (fun p=>decide (0 < m.getD p.toNat 0)) true (by omega) (fun i hi=>?_) ?_
    · have:=hb _ (qr 0 hi)
      simp (disch:=omega) only [qcq,ckB_ix,q7,q6,qa,ckB_mk,ckB_ne,bif_lt,q8,bif_le,qb,bif_eq,qc,bif_ne,qd,q9,q5,q4,bnd_ok,lk_inl,lk_inr,Int.toNat_natCast,decide_true]
      rw [qg]
      cases decide (0 < m.getD (l.getD i 0).toNat 0) <;> rfl
    · simp (disch:=omega) only [qcq,ckB_ix,q7,q6,qa,ckB_mk,ckB_ne,bif_lt,q8,bif_le,qb,bif_eq,qc,bif_ne,qd,q9,q5,q4,bnd_ok,lk_inl,lk_inr,Int.toNat_natCast,decide_true]
  unfold qha mkdB
  rw [hL,bnd_ok]
  cases l.any (fun p=>decide (0 < m.getD p.toNat 0)) <;> rfl
end Go.Proofs.Ytjhojmninmipcaa
