/-
  Siphon: Commoner; the law SiphonCommoner.
-/
import Derived.Test.YtjhojmninmipcaaZ5W4
set_option linter.all false
namespace Go.Proofs.Ytjhojmninmipcaa
open Go.K Go.M
theorem q14v (l m:List Int) (hl:l.length ≤ 1000000) (hb:∀ p ∈ l,0 ≤ p ∧ p < m.length):q9b l m=some (mkdB m l):=by
  have hL:qa9 l m (l.length:Int) 0=some (fOut (fun i=>(i:Int)) (fidx (fun p=>decide (0 < m.getD p.toNat 0)) l)):=by
    refine q74 l 0 (fun p=>decide (0 < m.getD p.toNat 0)) (fun i=>(i:Int)) (by omega) (fun i hi=>?_) ?_
    · have:=hb _ (qr 0 hi)
      simp (disch:=omega) only [q3c,qh5,ckB_ix,q7,q6,qa,ckB_mk,ckB_ne,bif_lt,q8,bif_le,qb,bif_eq,qc,bif_ne,qd,q9,q5,q4,bnd_ok,lk_inl,lk_inr,Int.toNat_natCast,decide_true]
      rw [qg]
      cases decide (0 < m.getD (l.getD i 0).toNat 0) <;> rfl
    · simp (disch:=omega) only [q3c,ckB_ix,q7,q6,qa,ckB_mk,ckB_ne,bif_lt,q8,bif_le,qb,bif_eq,qc,bif_ne,qd,q9,q5,q4,bnd_ok,lk_inl,lk_inr,Int.toNat_natCast,decide_true]
  unfold q9b q5c q78 mkdB
  rw [hL,bnd_ok,qg9,bnd_ok,bnd_ok,qiw]
def enN (n:Net) (m:List Int) (i:Nat):List Nat:=(List.range i).filter fun j=>canB (n.2.1.getD j Trans.z) m
def enL (n:Net) (m:List Int):List Int:=(enN n m n.2.1.length).map fun (j:Nat)=>(j:Int)
theorem q146 {n:Net} (h:Small n) (m:List Int) (hm:m.length ≤ 1000000):qev n m=some (bif validN n && markB n.1 m then (0,enL n m) else (1,[])):=by
  unfold qev
  rw [qx6 h m hm]
  cases hv:validN n with
  | false => rfl
  | true =>
    cases hk:markB n.1 m with
    | false => rfl
    | true =>
      have hlen:=h.trans
      have hL:qnw m n.2.1 (n.2.1.length:Int) (0,[])=some (.inl (enL n m)):=by
        unfold enL
        refine q7l (fun i:Nat=>((i:Int),(enN n m i).map fun (j:Nat)=>(j:Int))) n.2.1.length (q3l (by omega)) _ (fun i hi=>?_) ?_ _ rfl
        · have ht:=qr Trans.z hi
          have hb:=(qvq.1 (qxw hv ht).1).1
          have hml:=(qtn.1 hk).1
          have e1:=q14e (n.2.1.getD i Trans.z) m (Nat.le_trans (h.ins _ ht) (by omega)) (fun p hp=>by have:=hb p hp; omega)
          have e2:enN n m (i + 1)=bif canB (n.2.1.getD i Trans.z) m then enN n m i ++ [i] else enN n m i:=by
            unfold enN
            rw [List.range_succ,List.filter_append]
            cases hc:canB (n.2.1.getD i Trans.z) m with
            | true => rw [filt_t (p:=fun j=>canB (n.2.1.getD j Trans.z) m) hc]; rfl
            | false => rw [filt_f (p:=fun j=>canB (n.2.1.getD j Trans.z) m) hc,List.append_nil]; rfl
          have hle:((enN n m i).map fun (j:Nat)=>(j:Int)).length ≤ i:=by
            rw [List.length_map]
            have:=List.length_filter_le (fun j=>canB (n.2.1.getD j Trans.z) m) (List.range i)
            rw [List.length_range] at this
            exact this
          rw [e2]
          cases hc:canB (n.2.1.getD i Trans.z) m with
          | true =>
            rw [hc] at e1
            simp only [q8a,Int.toNat_natCast,e1,bnd_ok]
            simp (disch:=omega) only [ckB_ix,q7,q6,qa,ckB_mk,ckB_ne,bif_lt,q8,bif_le,qb,bif_eq,qc,bif_ne,qd,q9,q5,q4,bnd_ok,lk_inl,lk_inr,Int.toNat_natCast,decide_true]
            rw [qg,List.map_append]
            rfl
          | false =>
            rw [hc] at e1
            simp only [q8a,Int.toNat_natCast,e1,bnd_ok]
            simp (disch:=omega) only [ckB_ix,q7,q6,qa,ckB_mk,ckB_ne,bif_lt,q8,bif_le,qb,bif_eq,qc,bif_ne,qd,q9,q5,q4,bnd_ok,lk_inl,lk_inr,Int.toNat_natCast,decide_true]
            rw [qg]
        · simp (disch:=omega) only [q8a,ckB_ix,q7,q6,qa,ckB_mk,ckB_ne,bif_lt,q8,bif_le,qb,bif_eq,qc,bif_ne,qd,q9,q5,q4,bnd_ok,lk_inl,lk_inr,Int.toNat_natCast,decide_true]
      simp only [Bool.and_self,bnd_ok,Bool.not_true,cond_false,hL,lk_inl,cond_true]
theorem qzc {n:Net} (h:Small n) (m:List Int) (hm:m.length ≤ 1000000):qdd n m=some (validN n && markB n.1 m):=by
  unfold qdd
  rw [q146 h m hm]
  cases validN n && markB n.1 m <;> rfl
noncomputable def trapOf (n:Net) (h:Small n) (l:List Int):List Int:=@dite _ (l.length ≤ 1000000) (Classical.propDecidable _) (fun hl=>Classical.choose (qv9 h.T l hl true)) fun _=>[]
theorem qtv {n:Net} (h:Small n) (l:List Int) (hl:l.length ≤ 1000000):q7e n l true=some (trapOf n h l) ∧ Great n.2.1 true l (trapOf n h l):=by
  unfold trapOf
  rw [dif_pos hl]
  exact Classical.choose_spec (qv9 h.T l hl true)
theorem q11k {n:Net} (h:Small n) (l:List Int) (hl:l.length ≤ 1000000):qdp n l=some (trapOf n h l):=by
  obtain ⟨G,e,hG⟩:=q14n (n:=n) h.T l hl
  rw [e,q11u hG (qtv h l hl).2]
noncomputable def badS (n:Net) (h:Small n) (m l:List Int):Bool:=!mkdB m (trapOf n h l)
noncomputable def cOut (n:Net) (h:Small n) (m:List Int) (rows:Rw):Bool × List Int × Int:=match fidx (badS n h m) rows with | none=>(true,[],0) | some i=>(false,rows.getD i [],0)
section
variable (n:Net) (h:Small n) (m:List Int) (hm:markB n.1 m=true) (rows:Rw) (hl:rows.length ≤ 1000000) (hr:∀ i,i < rows.length → (rows.getD i []).length ≤ 1000 ∧ ∀ p ∈ rows.getD i [],0 ≤ p ∧ p < n.1)
include hm hl hr
theorem q17o:qky m rows (rows.length:Int) n.1 n.2.1 n.2.2.1 n.2.2.2.1 0=some (fOut (fun i=>(false,rows.getD i [],0)) (fidx (badS n h m) rows)):=by
  refine q74 rows [] (badS n h m) (fun i=>(false,rows.getD i [],0)) (by omega) (fun i hi=>?_) ?_
  · obtain ⟨h1,h2⟩:=hr i hi
    obtain ⟨e1,hG⟩:=qtv h (rows.getD i []) (by omega)
    have hml:=(qtn.1 hm).1
    have hgl:=qz5 hG
    have e2:=q14v (trapOf n h (rows.getD i [])) m (by omega) (fun p hp=>by have:=h2 p (qtx hG p hp); omega)
    have e1':q7e (n.1,n.2.1,n.2.2.1,n.2.2.2.1,()) (rows.getD i []) true=_:=e1
    unfold badS
    simp only [q9n,Int.toNat_natCast,e1',e2,bnd_ok]
    simp (disch:=omega) only [ckB_ix,q7,q6,qa,ckB_mk,ckB_ne,bif_lt,q8,bif_le,qb,bif_eq,qc,bif_ne,qd,q9,q5,q4,bnd_ok,lk_inl,lk_inr,Int.toNat_natCast,decide_true]
    rw [qg]
    cases mkdB m (trapOf n h (rows.getD i [])) <;> rfl
  · simp (disch:=omega) only [q9n,ckB_ix,q7,q6,qa,ckB_mk,ckB_ne,bif_lt,q8,bif_le,qb,bif_eq,qc,bif_ne,qd,q9,q5,q4,bnd_ok,lk_inl,lk_inr,Int.toNat_natCast,decide_true]
theorem q147:qn4 m rows n.1 n.2.1 n.2.2.1 n.2.2.2.1 0=some (fOut (fun i=>(false,rows.getD i [],0)) (fidx (badS n h m) rows)):=by
  refine q74 rows [] (badS n h m) (fun i=>(false,rows.getD i [],0)) (by omega) (fun i hi=>?_) ?_
  · obtain ⟨h1,h2⟩:=hr i hi
    obtain ⟨_,hG⟩:=qtv h (rows.getD i []) (by omega)
    have e1:=q11k h (rows.getD i []) (by omega)
    have hml:=(qtn.1 hm).1
    have hgl:=qz5 hG
    have e2:=q15o m (trapOf n h (rows.getD i [])) (by omega) (fun p hp=>by have:=h2 p (qtx hG p hp); omega)
    have e1':qdp (n.1,n.2.1,n.2.2.1,n.2.2.2.1,()) (rows.getD i [])=_:=e1
    unfold badS
    simp only [qap,Int.toNat_natCast,e1',e2,bnd_ok]
    simp (disch:=omega) only [ckB_ix,q7,q6,qa,ckB_mk,ckB_ne,bif_lt,q8,bif_le,qb,bif_eq,qc,bif_ne,qd,q9,q5,q4,bnd_ok,lk_inl,lk_inr,Int.toNat_natCast,decide_true]
    rw [qg]
    cases mkdB m (trapOf n h (rows.getD i [])) <;> rfl
  · simp (disch:=omega) only [qap,ckB_ix,q7,q6,qa,ckB_mk,ckB_ne,bif_lt,q8,bif_le,qb,bif_eq,qc,bif_ne,qd,q9,q5,q4,bnd_ok,lk_inl,lk_inr,Int.toNat_natCast,decide_true]
end
section
variable (n:Net) (N:Nat) (hn:n.1=(N:Int)) (hN:N ≤ 10) (h:Small n) (hv:validN n=true)
include hn hN
theorem qsr:(srt (q12 n N)).length ≤ 1000000 ∧ ∀ i,i < (srt (q12 n N)).length → ((srt (q12 n N)).getD i []).length ≤ 1000 ∧ ∀ p ∈ (srt (q12 n N)).getD i [],0 ≤ p ∧ p < n.1:=by
  have hp:=List.mergeSort_perm (q12 n N) (fun x y=>!ltL y x)
  have hpw:2 ^ N ≤ 2 ^ 10:=Nat.pow_le_pow_right (by omega) (by omega)
  have h1:(srt (q12 n N)).length=_:=hp.length_eq
  have h2:(q12 n N).length=_:=List.length_map ..
  have h3:=qu8 n N (2 ^ N)
  refine ⟨by omega,fun i hi=>?_⟩
  have hm:=hp.mem_iff.1 (qr [] hi)
  obtain ⟨j,_,hj⟩:=List.mem_map.1 hm
  have e:(srt (q12 n N)).getD i []=bitsL N j:=hj.symm
  rw [e]
  have:=qcz N j
  refine ⟨by omega,fun p hp=>?_⟩
  obtain ⟨q,hq,_,rfl⟩:=q7s.1 hp
  omega
include hv
theorem q128 (m:List Int) (hm:markB n.1 m=true) (hml:m.length ≤ 1000000):q2j n m=some (cOut n h m (srt (q12 n N))):=by
  obtain ⟨f1,f2⟩:=qsr n N hn hN
  have e1:=qzc h m hml
  rw [hv,hm] at e1
  have e2:=q12e n N hn (by omega) h hv hN
  have e3:=q17o n h m hm (srt (q12 n N)) f1 f2
  unfold q2j cOut
  simp only [e1,bnd_ok,e2,e3]
  cases fidx (badS n h m) (srt (q12 n N)) <;> rfl
theorem qyr (m:List Int) (hm:markB n.1 m=true):q88 n m=some (cOut n h m (srt (q12 n N))):=by
  obtain ⟨f1,f2⟩:=qsr n N hn hN
  have e2:=q10a n N hn (by omega) h hv hN
  have e3:=q147 n h m hm (srt (q12 n N)) f1 f2
  unfold q88 cOut
  simp only [bnd_ok,e2,e3]
  cases fidx (badS n h m) (srt (q12 n N)) <;> rfl
end
theorem qsp (n:Net) (m:List Int):qbv n m=some true:=by
  obtain ⟨b,hb,hF⟩:=q16c n
  unfold qbv
  rw [q14j,hb]
  simp only [bnd_ok]
  cases b with
  | true => rfl
  | false =>
    obtain ⟨h,_,hpl⟩:=hF rfl
    by_cases hml:(60:Int) < (m.length:Int)
    · rw [decide_eq_true hml]; rfl
    · have hml':m.length ≤ 1000000:=by omega
      have e0:=qzc h m hml'
      rw [decide_eq_false hml,q12m h,q109 n m hml']
      simp only [bnd_ok]
      cases hv:validN n with
      | false =>
        have e1:q2j n m=some (false,[],1):=by
          unfold q2j
          rw [e0,hv]
          rfl
        rw [e1]
        rfl
      | true =>
        cases hk:markB n.1 m with
        | false =>
          have e1:q2j n m=some (false,[],1):=by
            unfold q2j
            rw [e0,hv,hk]
            rfl
          rw [e1]
          rfl
        | true =>
          have hv1:1 ≤ n.1:=by
            unfold validN at hv
            simp only [Bool.and_eq_true,decide_eq_true_eq] at hv
            omega
          rcases hpl with h10 | h16
          · have hn:n.1=((n.1.toNat:Nat):Int):=by omega
            have e1:=q128 n n.1.toNat hn (by omega) h hv m hk hml'
            have e2:=qyr n n.1.toNat hn (by omega) h hv m hk
            obtain ⟨f1,f2⟩:=qsr n n.1.toNat hn (by omega)
            have e3:q2u (cOut n h m (srt (q12 n n.1.toNat))).2.1 (cOut n h m (srt (q12 n n.1.toNat))).2.1=some true:=by
              refine qxh _ ?_
              unfold cOut
              split
              · exact Nat.zero_le _
              · rename_i i _
                by_cases hi:i < (srt (q12 n n.1.toNat)).length
                · have:=(f2 i hi).1
                  show ((srt (q12 n n.1.toNat)).getD i []).length ≤ 1000000
                  omega
                · show ((srt (q12 n n.1.toNat)).getD i []).length ≤ 1000000
                  rw [List.getD_eq_getElem?_getD,List.getElem?_eq_none (by omega)]
                  exact Nat.zero_le _
            rw [e1,e2]
            simp only [bnd_ok,e3,beq_self_eq_true,decide_true,Bool.not_true,cond_false,cond_true]
          · have e1:q2j n m=some (false,[],13):=by
              have e:q7d n=some (13,[]):=by
                unfold q7d
                rw [qwk h,hv]
                simp only [bnd_ok]
                rw [decide_eq_true h16]
                rfl
              unfold q2j
              rw [e0,hv,hk,e]
              rfl
            have e2:q88 n m=some (false,[],13):=by
              have e:q9d n=some ([],13):=by
                unfold q9d
                rw [decide_eq_true h16]
                rfl
              unfold q88
              rw [e]
              rfl
            have e3:q2u [] []=some true:=qxh _ (by show (0:Nat) ≤ _; omega)
            rw [e1,e2]
            simp only [bnd_ok,e3]
            rfl
end Go.Proofs.Ytjhojmninmipcaa
