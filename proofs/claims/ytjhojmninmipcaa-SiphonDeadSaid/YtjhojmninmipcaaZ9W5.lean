/-
  Siphon: Commoner; the law SiphonCommoner.
-/
import Derived.Test.YtjhojmninmipcaaZ9W4
set_option linter.all false
namespace Go.Proofs.Ytjhojmninmipcaa
open Go.K Go.M
theorem q13d (l m:List Int) (hl:l.length ≤ 1000000) (hb:∀ p ∈ l,0 ≤ p ∧ p < m.length):qa3 l m=some (mkdB m l):=by
  have hL:qb7 l m (l.length:Int) 0=some (fOut (fun i=>(i:Int)) (fidx (fun p=>decide (0 < m.getD p.toNat 0)) l)):=by
    refine q5d l 0 (fun p=>decide (0 < m.getD p.toNat 0)) (fun i=>(i:Int)) (by omega) (fun i hi=>?_) ?_
    · have:=hb _ (qx 0 hi)
      simp (disch:=omega) only [q3f,qhw,ckB_ix,q7,q6,q8,ckB_mk,ckB_ne,bif_lt,qa,bif_le,qd,bif_eq,q9,bif_ne,qc,qb,q5,q4,bnd_ok,lk_inl,lk_inr,Int.toNat_natCast,decide_true]
      rw [qh]
      cases decide (0 < m.getD (l.getD i 0).toNat 0) <;> rfl
    · simp (disch:=omega) only [q3f,ckB_ix,q7,q6,q8,ckB_mk,ckB_ne,bif_lt,qa,bif_le,qd,bif_eq,q9,bif_ne,qc,qb,q5,q4,bnd_ok,lk_inl,lk_inr,Int.toNat_natCast,decide_true]
  unfold qa3 q5y q7r mkdB
  rw [hL,bnd_ok,qbp,bnd_ok,bnd_ok,qd3]
def enN (n:Net) (m:List Int) (i:Nat):List Nat:=(List.range i).filter fun j=>canB (n.2.1.getD j Trans.z) m
def enL (n:Net) (m:List Int):List Int:=(enN n m n.2.1.length).map fun (j:Nat)=>(j:Int)
theorem qvw {n:Net} (h:Small n) (m:List Int) (hm:m.length ≤ 1000000):qd0 n m=some (bif validN n && markB n.1 m then (0,enL n m) else (1,[])):=by
  unfold qd0
  rw [qnt h m hm]
  cases hv:validN n with
  | false => rfl
  | true =>
    cases hk:markB n.1 m with
    | false => rfl
    | true =>
      have hlen:=h.trans
      have hL:qnp m n.2.1 (n.2.1.length:Int) (0,[])=some (.inl (enL n m)):=by
        unfold enL
        refine qa0 (fun i:Nat=>((i:Int),(enN n m i).map fun (j:Nat)=>(j:Int))) n.2.1.length (q4i (by omega)) _ (fun i hi=>?_) ?_ _ rfl
        · have ht:=qx Trans.z hi
          have hb:=(qee.1 (qlw hv ht).1).1
          have hml:=(qdy.1 hk).1
          have e1:=qvt (n.2.1.getD i Trans.z) m (Nat.le_trans (h.ins _ ht) (by omega)) (fun p hp=>by have:=hb p hp; omega)
          have e2:enN n m (i + 1)=bif canB (n.2.1.getD i Trans.z) m then enN n m i ++ [i] else enN n m i:=by
            unfold enN
            rw [List.range_succ,List.filter_append]
            cases hc:canB (n.2.1.getD i Trans.z) m with
            | true => rw [filt_t (p:=fun j=>canB (n.2.1.getD j Trans.z) m) hc]; rfl
            | false => rw [filt_f (p:=fun j=>canB (n.2.1.getD j Trans.z) m) hc,List.append_nil]; rfl
          have hle:((enN n m i).map fun (j:Nat)=>(j:Int)).length ≤ i:=by
            rw [List.length_map]
            have:=List.length_filter_le (fun j=>canB (n.2.1.getD j Trans.z) m) (List.range i)
            rw [List.length_range] at this
            exact this
          rw [e2]
          cases hc:canB (n.2.1.getD i Trans.z) m with
          | true =>
            rw [hc] at e1
            simp only [q8x,Int.toNat_natCast,e1,bnd_ok]
            simp (disch:=omega) only [ckB_ix,q7,q6,q8,ckB_mk,ckB_ne,bif_lt,qa,bif_le,qd,bif_eq,q9,bif_ne,qc,qb,q5,q4,bnd_ok,lk_inl,lk_inr,Int.toNat_natCast,decide_true]
            rw [qh,List.map_append]
            rfl
          | false =>
            rw [hc] at e1
            simp only [q8x,Int.toNat_natCast,e1,bnd_ok]
            simp (disch:=omega) only [ckB_ix,q7,q6,q8,ckB_mk,ckB_ne,bif_lt,qa,bif_le,qd,bif_eq,q9,bif_ne,qc,qb,q5,q4,bnd_ok,lk_inl,lk_inr,Int.toNat_natCast,decide_true]
            rw [qh]
        · simp (disch:=omega) only [q8x,ckB_ix,q7,q6,q8,ckB_mk,ckB_ne,bif_lt,qa,bif_le,qd,bif_eq,q9,bif_ne,qc,qb,q5,q4,bnd_ok,lk_inl,lk_inr,Int.toNat_natCast,decide_true]
      simp only [Bool.and_self,bnd_ok,Bool.not_true,cond_false,hL,lk_inl,cond_true]
theorem q12p {n:Net} (h:Small n) (m:List Int) (hm:m.length ≤ 1000000):qdt n m=some (validN n && markB n.1 m):=by
  unfold qdt
  rw [qvw h m hm]
  cases validN n && markB n.1 m <;> rfl
noncomputable def trapOf (n:Net) (h:Small n) (l:List Int):List Int:=@dite _ (l.length ≤ 1000000) (Classical.propDecidable _) (fun hl=>Classical.choose (qtq h.T l hl true)) fun _=>[]
theorem qxa {n:Net} (h:Small n) (l:List Int) (hl:l.length ≤ 1000000):q84 n l true=some (trapOf n h l) ∧ Great n.2.1 true l (trapOf n h l):=by
  unfold trapOf
  rw [dif_pos hl]
  exact Classical.choose_spec (qtq h.T l hl true)
noncomputable def badS (n:Net) (h:Small n) (m l:List Int):Bool:=!mkdB m (trapOf n h l)
noncomputable def cOut (n:Net) (h:Small n) (m:List Int) (rows:Rw):Bool × List Int × Int:=match fidx (badS n h m) rows with | none=>(true,[],0) | some i=>(false,rows.getD i [],0)
section
variable (n:Net) (h:Small n) (m:List Int) (hm:markB n.1 m=true) (rows:Rw) (hl:rows.length ≤ 1000000) (hr:∀ i,i < rows.length → (rows.getD i []).length ≤ 1000 ∧ ∀ p ∈ rows.getD i [],0 ≤ p ∧ p < n.1)
include hm hl hr
theorem q15b:qku m rows (rows.length:Int) n.1 n.2.1 n.2.2.1 n.2.2.2.1 0=some (fOut (fun i=>(false,rows.getD i [],0)) (fidx (badS n h m) rows)):=by
  refine q5d rows [] (badS n h m) (fun i=>(false,rows.getD i [],0)) (by omega) (fun i hi=>?_) ?_
  · obtain ⟨h1,h2⟩:=hr i hi
    obtain ⟨e1,hG⟩:=qxa h (rows.getD i []) (by omega)
    have hml:=(qdy.1 hm).1
    have hgl:=q136 hG
    have e2:=q13d (trapOf n h (rows.getD i [])) m (by omega) (fun p hp=>by have:=h2 p (qsg hG p hp); omega)
    have e1':q84 (n.1,n.2.1,n.2.2.1,n.2.2.2.1,()) (rows.getD i []) true=_:=e1
    unfold badS
    simp only [qa7,Int.toNat_natCast,e1',e2,bnd_ok]
    simp (disch:=omega) only [ckB_ix,q7,q6,q8,ckB_mk,ckB_ne,bif_lt,qa,bif_le,qd,bif_eq,q9,bif_ne,qc,qb,q5,q4,bnd_ok,lk_inl,lk_inr,Int.toNat_natCast,decide_true]
    rw [qh]
    cases mkdB m (trapOf n h (rows.getD i [])) <;> rfl
  · simp (disch:=omega) only [qa7,ckB_ix,q7,q6,q8,ckB_mk,ckB_ne,bif_lt,qa,bif_le,qd,bif_eq,q9,bif_ne,qc,qb,q5,q4,bnd_ok,lk_inl,lk_inr,Int.toNat_natCast,decide_true]
end
section
variable (n:Net) (N:Nat) (hn:n.1=(N:Int)) (hN:N ≤ 10) (h:Small n) (hv:validN n=true)
include hn hN
theorem qxm:(srt (q1q n N)).length ≤ 1000000 ∧ ∀ i,i < (srt (q1q n N)).length → ((srt (q1q n N)).getD i []).length ≤ 1000 ∧ ∀ p ∈ (srt (q1q n N)).getD i [],0 ≤ p ∧ p < n.1:=by
  have hp:=List.mergeSort_perm (q1q n N) (fun x y=>!ltL y x)
  have hpw:2 ^ N ≤ 2 ^ 10:=Nat.pow_le_pow_right (by omega) (by omega)
  have h1:(srt (q1q n N)).length=_:=hp.length_eq
  have h2:(q1q n N).length=_:=List.length_map ..
  have h3:=qw9 n N (2 ^ N)
  refine ⟨by omega,fun i hi=>?_⟩
  have hm:=hp.mem_iff.1 (qx [] hi)
  obtain ⟨j,_,hj⟩:=List.mem_map.1 hm
  have e:(srt (q1q n N)).getD i []=bitsL N j:=hj.symm
  rw [e]
  have:=qqa N j
  refine ⟨by omega,fun p hp=>?_⟩
  obtain ⟨q,hq,_,rfl⟩:=qgb.1 hp
  omega
include hv
theorem q10b (m:List Int) (hm:markB n.1 m=true) (hml:m.length ≤ 1000000):qdd n m=some (cOut n h m (srt (q1q n N))):=by
  obtain ⟨f1,f2⟩:=qxm n N hn hN
  have e1:=q12p h m hml
  rw [hv,hm] at e1
  have e2:=qtu n N hn (by omega) h hv hN
  have e3:=q15b n h m hm (srt (q1q n N)) f1 f2
  unfold qdd cOut
  simp only [e1,bnd_ok,e2,e3]
  cases fidx (badS n h m) (srt (q1q n N)) <;> rfl
end
end Go.Proofs.Ytjhojmninmipcaa
