/-
  Flow: which places are covered; the law FlowInvariants.
-/
import Derived.Test.YthakmiiaejhlbaaZ4F8
set_option linter.all false
namespace Go.Proofs.Ythakmiiaejhlbaa
open Go.K Go.M
def coverB (N:Nat) (d:Rw):Bool:=(List.range N).all fun p=>d.any fun y=>decide (0 < y.getD p 0)
def orM (N:Nat) (d:Rw):Nat:=d.foldl (fun m y=>m ||| msk (fn y) N) 0
theorem qub (N p:Nat):∀ (d:Rw) (m:Nat),(d.foldl (fun m y=>m ||| msk (fn y) N) m).testBit p=(m.testBit p||d.any fun y=>decide (p < N)&&!decide (y.getD p 0=0))
 | [], m => by simp
 | y :: d, m => by
   rw [List.foldl_cons,qub N p d,Nat.testBit_or,qpv,List.any_cons,Bool.or_assoc]
   rfl
theorem orM_lt (N:Nat) (d:Rw):orM N d < 2 ^ N:=by
 refine Nat.lt_pow_two_of_testBit _ fun i hi=>?_
 unfold orM
 rw [qub,Nat.zero_testBit,Bool.false_or]
 rw [List.any_eq_false]
 intro y _
 have:decide (i < N)=false:=decide_eq_false (by omega)
 simp [this]
theorem q19v (N:Nat) (d:Rw) (h0:∀ x∈d,∀ i,0≤x.getD i 0):decide (orM N d=2 ^ N - 1)=coverB N d:=by
 rw [Bool.eq_iff_iff,decide_eq_true_eq]
 unfold coverB
 rw [List.all_eq_true]
 constructor
 · intro h p hp
   have hp:=List.mem_range.1 hp
   have hb:=qub N p d 0
   have h:(d.foldl (fun m y=>m ||| msk (fn y) N) 0)=2 ^ N - 1:=h
   rw [h,Nat.testBit_two_pow_sub_one,Nat.zero_testBit,Bool.false_or,decide_eq_true hp] at hb
   obtain ⟨y,hy,hq⟩:=List.any_eq_true.1 hb.symm
   refine List.any_eq_true.2 ⟨y,hy,?_⟩
   have:=h0 y hy p
   simp only [Bool.true_and,Bool.not_eq_true',decide_eq_false_iff_not] at hq
   exact decide_eq_true (by omega)
 · intro h
   refine Nat.eq_of_testBit_eq fun p=>?_
   rw [Nat.testBit_two_pow_sub_one]
   unfold orM
   rw [qub,Nat.zero_testBit,Bool.false_or]
   by_cases hp:p < N
   · rw [decide_eq_true hp]
     obtain ⟨y,hy,hq⟩:=List.any_eq_true.1 (h p (List.mem_range.2 hp))
     have:=of_decide_eq_true hq
     refine List.any_eq_true.2 ⟨y,hy,?_⟩
     simp only [Bool.true_and,Bool.not_eq_true',decide_eq_false_iff_not]
     omega
   · rw [decide_eq_false hp,List.any_eq_false]
     intro y _
     simp
def covO (n:Net):Bool×Int:=bif !decide ((outP n).2=0) then (false,(outP n).2) else (coverB n.1.toNat (outP n).1,0)
theorem qsw {n:Net} (hf:FewN n) (h:(outP n).2=0):validN n=true∧largeB n=false∧1≤n.1∧n.1≤12∧n.2.1.length≤14:=by
 unfold outP at h
 cases hv:validN n with
 | false => rw [hv] at h; exact absurd (show (1:Int)=0 from h) (by decide)
 | true =>
   cases hl:largeB n with
   | true => rw [hv,hl] at h; exact absurd (show (5:Int)=0 from h) (by decide)
   | false =>
     have:=qiu hf hl
     exact ⟨rfl,rfl,(qfc hv).1,this.1,this.2⟩
theorem q15i {n:Net} (h:Small n) (hf:FewN n):qgw n=some (covO n):=by
 unfold qgw covO
 rw [q102 h hf,bnd_ok]
 cases he:decide ((outP n).2=0) with
 | false => rfl
 | true =>
   obtain ⟨hv,hl,f1,f2,f3⟩:=qsw hf (of_decide_eq_true he)
   have ho:=qpl (n:=n)
   have hL:qpt (outP n).1 ((outP n).1.length:Int) n.1 n.2.1 n.2.2.1 n.2.2.2.1 (0,0)=some (.inl ((orM n.1.toNat (outP n).1:Nat):Int)):=by
     have e:orM n.1.toNat (outP n).1=orM n.1.toNat ((outP n).1.take (outP n).1.length):=by rw [List.take_length]
     have hlen:=ho.len
     rw [e]
     refine q15 (fun i:Nat=>(((orM n.1.toNat ((outP n).1.take i):Nat):Int),(i:Int))) (outP n).1.length (qt (by omega)) _ (fun i hi=>?_) ?_ _ rfl
     · have hx:=ho.row _ (qr [] hi)
       have h1:=qrb (n:=n.1.toNat) (by omega) hx.1
       have h2:=orM_lt n.1.toNat ((outP n).1.take i)
       have h3:=msk_lt (fn ((outP n).1.getD i [])) n.1.toNat
       have hp:2 ^ n.1.toNat≤2 ^ 12:=Nat.pow_le_pow_right (by omega) (by omega)
       have h4:=or64 _ _ (show orM n.1.toNat ((outP n).1.take i) < 2 ^ 63 by omega) (show msk (fn ((outP n).1.getD i [])) n.1.toNat < 2 ^ 63 by omega)
       have h5:orM n.1.toNat ((outP n).1.take (i+1))=orM n.1.toNat ((outP n).1.take i) ||| msk (fn ((outP n).1.getD i [])) n.1.toNat:=qc3 _ _ _ _ _ hi
       rw [h5,← h4]
       simp (disch:=omega) only [qbn,h1,ckB_ix,q7,q6,qa,ckB_mk,ckB_ne,bif_lt,q8,bif_le,q9,bif_eq,qc,bif_ne,qb,qd,q5,q4,bnd_ok,lk_inl,lk_inr,Int.toNat_natCast,decide_true]
       rw [qg]
     · simp (disch:=omega) only [qbn,ckB_ix,q7,q6,qa,ckB_mk,ckB_ne,bif_lt,q8,bif_le,q9,bif_eq,qc,bif_ne,qb,qd,q5,q4,bnd_ok,lk_inl,lk_inr,Int.toNat_natCast,decide_true]
   have d:(decide (0≤n.1))=true:=decide_eq_true (by omega)
   have hsh:IntKind.wrap .u64 (shlI .u64 1 n.1 - 1)=((2 ^ n.1.toNat - 1:Nat):Int):=by
     have e:n.1=(n.1.toNat:Int):=by omega
     have h1:=qz0 (n:=n.1.toNat) (by omega)
     have hp:2 ^ n.1.toNat≤2 ^ 12:=Nat.pow_le_pow_right (by omega) (by omega)
     have h0:1≤2 ^ n.1.toNat:=Nat.one_le_two_pow
     conv=>lhs; rw [e]
     rw [h1,show (((2 ^ n.1.toNat:Nat):Int) - 1)=((2 ^ n.1.toNat - 1:Nat):Int) by omega]
     exact wrapU _ (by omega)
   have hall:=q19v n.1.toNat (outP n).1 fun x hx i=>((ho.row x hx).2 i).1
   rw [hL,hsh,d]
   simp only [bnd_ok,lk_inl,q7f,Bool.not_true,cond_false]
   rw [← hall]
   refine congrArg some (Prod.ext (decide_eq_decide.2 ?_) rfl)
   omega
theorem q10s {n:Net} (h:Small n) (hf:FewN n):qeb n=some (covO n):=by
 unfold qeb covO
 rw [qtq h hf,bnd_ok]
 cases he:decide ((outP n).2=0) with
 | false => rfl
 | true =>
   obtain ⟨hv,hl,f1,f2,f3⟩:=qsw hf (of_decide_eq_true he)
   have ho:=qpl (n:=n)
   have hlen:=ho.len
   have h0:∀ p:Nat,p < n.1.toNat→qnt (outP n).1 (p:Int) n.1 n.2.1 n.2.2.1 n.2.2.2.1 (false,0)=some (.inl ((outP n).1.any fun y=>decide (0 < y.getD p 0))):=fun p hp=>by
     have e:((outP n).1.any fun y=>decide (0 < y.getD p 0))=(((outP n).1.take (outP n).1.length).any fun y=>decide (0 < y.getD p 0)):=by rw [List.take_length]
     rw [e]
     refine q15 (fun i:Nat=>(((outP n).1.take i).any fun y=>decide (0 < y.getD p 0),(i:Int))) (outP n).1.length (qt (by omega)) _ (fun i hi=>?_) ?_ _ rfl
     · have hx:=ho.row _ (qr [] hi)
       have h1:=hx.1
       have h5:(((outP n).1.take (i+1)).any fun y=>decide (0 < y.getD p 0))=((((outP n).1.take i).any fun y=>decide (0 < y.getD p 0))||decide (0 < ((outP n).1.getD i []).getD p 0)):=by
         rw [qcv _ i [] hi,List.any_append,List.any_cons,List.any_nil,Bool.or_false]
       rw [h5]
       cases hb:((outP n).1.take i).any fun y=>decide (0 < y.getD p 0) with
       | true =>
         simp (disch:=omega) only [q7u,ckB_ix,q7,q6,qa,ckB_mk,ckB_ne,bif_lt,q8,bif_le,q9,bif_eq,qc,bif_ne,qb,qd,q5,q4,bnd_ok,lk_inl,lk_inr,Int.toNat_natCast,decide_true]
         rw [qg]
         rfl
       | false =>
         simp (disch:=omega) only [q7u,ckB_ix,q7,q6,qa,ckB_mk,ckB_ne,bif_lt,q8,bif_le,q9,bif_eq,qc,bif_ne,qb,qd,q5,q4,bnd_ok,lk_inl,lk_inr,Int.toNat_natCast,decide_true]
         rw [qg]
         rfl
     · simp (disch:=omega) only [q7u,ckB_ix,q7,q6,qa,ckB_mk,ckB_ne,bif_lt,q8,bif_le,q9,bif_eq,qc,bif_ne,qb,qd,q5,q4,bnd_ok,lk_inl,lk_inr,Int.toNat_natCast,decide_true]
   have hL:qn7 (outP n).1 n.1 n.2.1 n.2.2.1 n.2.2.2.1 0=some (bif coverB n.1.toNat (outP n).1 then .inl () else .inr (false,0)):=by
     unfold coverB
     refine qf3 (fun i:Nat=>(i:Int)) n.1.toNat (qt (by omega)) (fun p=>(outP n).1.any fun y=>decide (0 < y.getD p 0)) () (false,0) (fun p hp hq=>?_) (fun p hp hq=>?_) ?_
     · have h1:=h0 p hp
       rw [hq] at h1
       simp (disch:=omega) only [q7q,h1,Bool.not_true,ckB_ix,q7,q6,qa,ckB_mk,ckB_ne,bif_lt,q8,bif_le,q9,bif_eq,qc,bif_ne,qb,qd,q5,q4,bnd_ok,lk_inl,lk_inr,Int.toNat_natCast,decide_true]
       rw [qg]
     · have h1:=h0 p hp
       rw [hq] at h1
       simp (disch:=omega) only [q7q,h1,Bool.not_false,ckB_ix,q7,q6,qa,ckB_mk,ckB_ne,bif_lt,q8,bif_le,q9,bif_eq,qc,bif_ne,qb,qd,q5,q4,bnd_ok,lk_inl,lk_inr,Int.toNat_natCast,decide_true]
     · simp (disch:=omega) only [q7q,ckB_ix,q7,q6,qa,ckB_mk,ckB_ne,bif_lt,q8,bif_le,q9,bif_eq,qc,bif_ne,qb,qd,q5,q4,bnd_ok,lk_inl,lk_inr,Int.toNat_natCast,decide_true]
   rw [hL]
   cases coverB n.1.toNat (outP n).1<;>rfl
theorem qsd (n:Net) (hl:n.2.1.length≤9223372036854775807):qak n=some true:=by
 obtain ⟨b,hb,hF⟩:=few_eq n hl
 unfold qak
 rw [q15k,hb]
 cases b with
 | false => rfl
 | true =>
   obtain ⟨h,hf⟩:=hF rfl
   have hf:FewN n:=hf
   have h12:∀ x∈(outP n).1,x.length≤1000000:=fun x hx=>by
     have h1:=(qpl (n:=n)).row x hx
     have he:(outP n).2=0:=by
       apply Classical.byContradiction
       intro hne
       rw [qpl.err hne] at hx
       simp at hx
     have:=qsw hf he
     omega
   have h14:∀ x∈(outT n).1,x.length≤1000000:=fun x hx=>by
     have h1:=(q13u (n:=n)).row x hx
     have:=h.trans
     omega
   have l1:=(qpl (n:=n)).len
   have l2:=(q13u (n:=n)).len
   have s1:=q10c (outP n).1 (by omega) h12
   have s2:=q10c (outT n).1 (by omega) h14
   simp only [bnd_ok,Bool.not_true,cond_false,q102 h hf,qtq h hf,qyw h hf,qux h hf,q15i h hf,q10s h hf,s1,s2,cond_true,decide_true,BEq.rfl]
end Go.Proofs.Ythakmiiaejhlbaa
