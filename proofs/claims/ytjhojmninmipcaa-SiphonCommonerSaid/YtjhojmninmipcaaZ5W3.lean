/-
  Siphon: Minimal as the program gives it; the reference's bits and order.
-/
import Derived.Test.YtjhojmninmipcaaZ5W2
set_option linter.all false
namespace Go.Proofs.Ytjhojmninmipcaa
open Go.K Go.M
section
variable (n:Net) (N:Nat) (hn:n.1=(N:Int)) (hN:N ≤ 16) (hs:Small n) (hv:validN n=true)
theorem q143 (N:Nat) (hN:N ≤ 16) (s:Nat) (hs:s < 2 ^ N) (v18:List Int) (v19 v20 a b c:Int) (ts:List Trans) (o:Rw) :
    ql7 (s:Int) v18 v19 v20 (N:Int) a ts b c o (0,[])=some (.inl (bitsL N s)):=by
  have h16:2 ^ N ≤ 2 ^ 16:=Nat.pow_le_pow_right (by omega) hN
  refine q7l (fun i:Nat=>((i:Int),bitsL i s)) N (q3l (by omega)) _ (fun i hi=>?_) ?_ _ rfl
  · have e1:=bit_at s i (by omega) (by omega)
    have e2:=qt5 i s
    have hl:=qcz i s
    have h0:(0:Int) ≤ (i:Int):=by omega
    cases hb:s.testBit i with
    | true =>
      rw [hb] at e1 e2
      rw [e2]
      simp only [q76,e1]
      simp (disch:=omega) only [ckB_ix,q7,q6,qa,ckB_mk,ckB_ne,bif_lt,q8,bif_le,qb,bif_eq,qc,bif_ne,qd,q9,q5,q4,bnd_ok,lk_inl,lk_inr,Int.toNat_natCast,decide_true]
      rw [qg]
      rfl
    | false =>
      rw [hb] at e1 e2
      rw [e2]
      simp only [q76,e1]
      simp (disch:=omega) only [ckB_ix,q7,q6,qa,ckB_mk,ckB_ne,bif_lt,q8,bif_le,qb,bif_eq,qc,bif_ne,qd,q9,q5,q4,bnd_ok,lk_inl,lk_inr,Int.toNat_natCast,decide_true]
      rw [qg]
      rfl
  · simp (disch:=omega) only [q76,ckB_ix,q7,q6,qa,ckB_mk,ckB_ne,bif_lt,q8,bif_le,qb,bif_eq,qc,bif_ne,qd,q9,q5,q4,bnd_ok,lk_inl,lk_inr,Int.toNat_natCast,decide_true]
include hn hN hs hv
noncomputable def q12 (n:Net) (N:Nat):Rw:=(fndL n N (2 ^ N)).map (bitsL N)
omit hn hN hs hv in
theorem qu8 (n:Net) (N s:Nat):(fndL n N s).length ≤ s:=by
  have:=List.length_filter_le (minB n N) (List.range s)
  rw [List.length_range] at this
  exact this
omit hn hs hv in
theorem q17m:Sh (q12 n N):=by
  intro i
  by_cases h:i < (q12 n N).length
  · have hm:=qr (l:=q12 n N) [] h
    unfold q12 at hm
    obtain ⟨k,_,hk⟩:=List.mem_map.1 hm
    unfold q12
    rw [← hk]
    have:=qcz N k
    omega
  · rw [List.getD_eq_getElem?_getD,List.getElem?_eq_none (by omega)]
    show (0:Nat) ≤ _
    omega
theorem q14u (a:Int) (ts:List Trans) (b c:Int):qkp ((fndL n N (2 ^ N)).map fun (k:Nat)=>(k:Int)) (((fndL n N (2 ^ N)).map fun (k:Nat)=>(k:Int)).length:Int) n.1 ts b c (0,[])=some (.inl (q12 n N)):=by
  have h16:2 ^ N ≤ 2 ^ 16:=Nat.pow_le_pow_right (by omega) hN
  have hfl:=qu8 n N (2 ^ N)
  have hlen:((fndL n N (2 ^ N)).map fun (k:Nat)=>(k:Int)).length=(fndL n N (2 ^ N)).length:=List.length_map ..
  have e:q12 n N=((fndL n N (2 ^ N)).take (fndL n N (2 ^ N)).length).map (bitsL N):=by rw [List.take_length]; rfl
  rw [e,hlen,hn]
  refine q7l (fun i:Nat=>((i:Int),((fndL n N (2 ^ N)).take i).map (bitsL N))) (fndL n N (2 ^ N)).length (q3l (by omega)) _ (fun i hi=>?_) ?_ _ rfl
  · have hg:=qwh (fndL n N (2 ^ N)) (fun (k:Nat)=>(k:Int)) 0 i hi
    have hk:(fndL n N (2 ^ N)).getD i 0 < 2 ^ N:=by
      have hm:=qr (l:=fndL n N (2 ^ N)) 0 hi
      unfold fndL at hm
      exact List.mem_range.1 (List.mem_filter.1 hm).1
    have e1:=q143 N hN ((fndL n N (2 ^ N)).getD i 0) hk ((fndL n N (2 ^ N)).map fun (k:Nat)=>(k:Int)) ((fndL n N (2 ^ N)).length:Int) (i:Int) (N:Int) b c ts (((fndL n N (2 ^ N)).take i).map (bitsL N))
    have hl:(((fndL n N (2 ^ N)).take i).map (bitsL N)).length=i:=by rw [List.length_map,List.length_take]; omega
    rw [q1w (fndL n N (2 ^ N)) i 0 hi,List.map_append]
    simp only [q9h,Int.toNat_natCast,hg,e1,bnd_ok,lk_inl,hl]
    simp (disch:=omega) only [ckB_ix,q7,q6,qa,ckB_mk,ckB_ne,bif_lt,q8,bif_le,qb,bif_eq,qc,bif_ne,qd,q9,q5,q4,bnd_ok,lk_inl,lk_inr,Int.toNat_natCast,decide_true]
    rw [qg]
    rfl
  · simp (disch:=omega) only [q9h,ckB_ix,q7,q6,qa,ckB_mk,ckB_ne,bif_lt,q8,bif_le,qb,bif_eq,qc,bif_ne,qd,q9,q5,q4,bnd_ok,lk_inl,lk_inr,Int.toNat_natCast,decide_true]
theorem q12e (h10:N ≤ 10):q7d n=some (0,srt (q12 n N)):=by
  have h16:2 ^ N ≤ 2 ^ 10:=Nat.pow_le_pow_right (by omega) h10
  have hfl:=qu8 n N (2 ^ N)
  have hlen:(q12 n N).length=(fndL n N (2 ^ N)).length:=List.length_map ..
  have e1:=q149 n N hn hN hs hv
  have e2:=q14u n N hn hN hs hv 0 n.2.1 n.2.2.1 n.2.2.2.1
  have e3:=q184 (q12 n N) (q17m n N hN) (by omega)
  have e4:(srt (q12 n N)).length=(q12 n N).length:=(List.mergeSort_perm _ _).length_eq
  unfold q7d
  rw [qwk hs,hv]
  have hlt:¬ (16:Int) < n.1:=by omega
  simp only [bnd_ok,e1,e2,lk_inl,e3]
  rw [q36 (decide_eq_true e4),decide_eq_false hlt]
  rfl
end
theorem q16q {i k:Nat} (hk:k < 2 ^ i):∀ N,i ≤ N → bitsL N k=bitsL i k:=by
  intro N
  induction N with
  | zero => intro h; rw [show i=0 by omega]
  | succ N ih =>
    intro h
    by_cases he:i=N + 1
    · rw [he]
    · rw [qt5,Nat.testBit_lt_two_pow (Nat.lt_of_lt_of_le hk (Nat.pow_le_pow_right (by omega) (by omega)))]
      exact ih (by omega)
theorem q13v (N k:Nat) (hN:N ≤ 16) (hk:k < 2 ^ N):qlp (k:Int)=some (bitsL N k):=by
  have h16:2 ^ N ≤ 2 ^ 16:=Nat.pow_le_pow_right (by omega) hN
  have hloop:∃ o,qty ((k:Int),0,[])=some o ∧ o=.inl (bitsL N k):=by
    refine q22 (fun (st:Int × Int × List Int)=>∃ i:Nat,i ≤ N ∧ st=(((k / 2 ^ i:Nat):Int),(i:Int),bitsL i k)) (fun st=>((N:Int) - st.2.1).toNat) (fun (o:List Int ⊕ List Int)=>o=.inl (bitsL N k)) _ ⟨0,Nat.zero_le _,by simp [bitsL]⟩ (by show ((N:Int) - 0).toNat < many; unfold many; omega) ?_
    rintro _ ⟨i,hi,rfl⟩
    have hle:k / 2 ^ i ≤ k:=Nat.div_le_self _ _
    by_cases h0:0 < k / 2 ^ i
    · have hki:2 ^ i ≤ k:=by
        refine Classical.byContradiction fun hc=>?_
        rw [Nat.div_eq_of_lt (by omega)] at h0
        omega
      have hiN:i < N:=by
        refine Classical.byContradiction fun hc=>?_
        have:2 ^ N ≤ 2 ^ i:=Nat.pow_le_pow_right (by omega) (by omega)
        omega
      have e1:k / 2 ^ (i + 1)=k / 2 ^ i / 2:=by rw [Nat.pow_succ,Nat.div_div_eq_div_mul]
      have e2:Int.tmod ((k / 2 ^ i:Nat):Int) 2=((k / 2 ^ i % 2:Nat):Int):=by rw [Int.tmod_eq_emod_of_nonneg (Int.natCast_nonneg _)]; rfl
      have e3:Int.tdiv ((k / 2 ^ i:Nat):Int) 2=((k / 2 ^ (i + 1):Nat):Int):=by rw [Int.tdiv_eq_ediv_of_nonneg (Int.natCast_nonneg _),e1]; rfl
      have e4:=qt5 i k
      have e5:decide (((k / 2 ^ i % 2:Nat):Int)=1)=k.testBit i:=by
        rw [Nat.testBit_eq_decide_div_mod_eq]
        exact decide_eq_decide.2 ⟨fun h=>by omega,fun h=>by omega⟩
      have hl:=qcz i k
      have hpos:(0:Int) < ((k / 2 ^ i:Nat):Int):=Int.natCast_pos.2 h0
      have hle2:k / 2 ^ (i + 1) ≤ k:=Nat.div_le_self _ _
      refine ⟨.next (((k / 2 ^ (i + 1):Nat):Int),((i + 1:Nat):Int),bitsL (i + 1) k),?_,⟨i + 1,hiN,rfl⟩,by show ((N:Int) - ((i + 1:Nat):Int)).toNat < ((N:Int) - (i:Int)).toNat; omega⟩
      simp only [qey,e2,e3,e5,e4]
      generalize k / 2 ^ (i + 1)=q at hle2
      generalize k / 2 ^ i=q' at hpos
      cases k.testBit i with
      | true =>
        simp (disch:=omega) only [ckB_ix,q7,q6,qa,ckB_mk,ckB_ne,bif_lt,q8,bif_le,qb,bif_eq,qc,bif_ne,qd,q9,q5,q4,bnd_ok,lk_inl,lk_inr,Int.toNat_natCast,decide_true]
        rw [qg]
      | false =>
        simp (disch:=omega) only [ckB_ix,q7,q6,qa,ckB_mk,ckB_ne,bif_lt,q8,bif_le,qb,bif_eq,qc,bif_ne,qd,q9,q5,q4,bnd_ok,lk_inl,lk_inr,Int.toNat_natCast,decide_true]
        rw [qg]
    · refine ⟨.done (bitsL i k),?_,?_⟩
      · have:¬ (0:Int) < ((k / 2 ^ i:Nat):Int):=fun h=>h0 (Int.natCast_pos.1 h)
        simp only [qey]
        rw [decide_eq_false this]
        rfl
      · have hz:k / 2 ^ i=0:=Nat.eq_zero_of_not_pos h0
        have hki:k < 2 ^ i:=by
          rcases (Nat.div_eq_zero_iff).1 hz with h | h
          · have:1 ≤ 2 ^ i:=Nat.one_le_two_pow
            omega
          · exact h
        rw [q16q hki N hi]
  obtain ⟨_,ho,rfl⟩:=hloop
  unfold qlp
  rw [ho]
  rfl
theorem q17l (a b:List Int) (ha:a.length ≤ 1000000) (hb:b.length ≤ 1000000):qle a b=some (ltL a b):=by
  have hloop:∃ o,qtt a b 0=some o ∧ (match o with | .inl _=>decide ((a.length:Int) < (b.length:Int))=ltL a b | .inr r=>r=ltL a b):=by
    refine q22 (fun (st:Int)=>∃ i:Nat,i ≤ a.length ∧ i ≤ b.length ∧ st=(i:Int) ∧ ltL (a.drop i) (b.drop i)=ltL a b) (fun st=>((a.length:Int) - st).toNat) (fun (o:Unit ⊕ Bool)=>match o with | .inl _=>decide ((a.length:Int) < (b.length:Int))=ltL a b | .inr r=>r=ltL a b) _ ⟨0,Nat.zero_le _,Nat.zero_le _,rfl,rfl⟩ (by show ((a.length:Int) - 0).toNat < many; unfold many; omega) ?_
    rintro _ ⟨i,hi,hib,rfl,he⟩
    by_cases h:i < a.length
    · by_cases h2:i < b.length
      · rw [q10w a b i h h2] at he
        by_cases heq:a.getD i 0=b.getD i 0
        · rw [if_pos heq] at he
          refine ⟨.next (((i + 1:Nat):Int)),?_,⟨i + 1,by omega,by omega,rfl,he⟩,by show ((a.length:Int) - ((i + 1:Nat):Int)).toNat < ((a.length:Int) - (i:Int)).toNat; omega⟩
          simp (disch:=omega) only [q9c,ckB_ix,q7,q6,qa,ckB_mk,ckB_ne,bif_lt,q8,bif_le,qb,bif_eq,qc,bif_ne,qd,q9,q5,q4,bnd_ok,lk_inl,lk_inr,Int.toNat_natCast,decide_true]
          rw [qg]
        · rw [if_neg heq] at he
          refine ⟨.ret (decide (a.getD i 0 < b.getD i 0)),?_,he⟩
          simp (disch:=omega) only [q9c,ckB_ix,q7,q6,qa,ckB_mk,ckB_ne,bif_lt,q8,bif_le,qb,bif_eq,qc,bif_ne,qd,q9,q5,q4,bnd_ok,lk_inl,lk_inr,Int.toNat_natCast,decide_true]
      · refine ⟨.done (),?_,?_⟩
        · simp (disch:=omega) only [q9c,ckB_ix,q7,q6,qa,ckB_mk,ckB_ne,bif_lt,q8,bif_le,qb,bif_eq,qc,bif_ne,qd,q9,q5,q4,bnd_ok,lk_inl,lk_inr,Int.toNat_natCast,decide_true]
        · show decide ((a.length:Int) < (b.length:Int))=ltL a b
          have e:b.drop i=[]:=List.drop_eq_nil_of_le (by omega)
          rw [← he,e,decide_eq_false (by omega)]
          cases a.drop i <;> rfl
    · have e:i=a.length:=by omega
      subst e
      refine ⟨.done (),?_,?_⟩
      · simp (disch:=omega) only [q9c,ckB_ix,q7,q6,qa,ckB_mk,ckB_ne,bif_lt,q8,bif_le,qb,bif_eq,qc,bif_ne,qd,q9,q5,q4,bnd_ok,lk_inl,lk_inr,Int.toNat_natCast,decide_true]
      · show decide ((a.length:Int) < (b.length:Int))=ltL a b
        rw [← he,List.drop_length]
        cases hd:b.drop a.length with
        | nil =>
          have:=List.length_drop (i:=a.length) (l:=b)
          rw [hd] at this
          simp at this
          rw [decide_eq_false (by omega)]
          rfl
        | cons x l =>
          have:=List.length_drop (i:=a.length) (l:=b)
          rw [hd] at this
          simp at this
          rw [decide_eq_true (by omega)]
          rfl
  obtain ⟨o,ho,hp⟩:=hloop
  unfold qle
  rw [ho,bnd_ok]
  cases o with
  | inl _ => exact congrArg some hp
  | inr _ => exact congrArg some hp
end Go.Proofs.Ytjhojmninmipcaa
