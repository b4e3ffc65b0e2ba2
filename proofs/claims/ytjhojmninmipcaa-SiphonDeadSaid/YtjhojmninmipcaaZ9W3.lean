/-
  Siphon: Minimal as the program gives it; the reference's bits and order.
-/
import Derived.Test.YtjhojmninmipcaaZ9W2
set_option linter.all false
namespace Go.Proofs.Ytjhojmninmipcaa
open Go.K Go.M
section
variable (n:Net) (N:Nat) (hn:n.1=(N:Int)) (hN:N ≤ 16) (hs:Small n) (hv:validN n=true)
theorem q11r (N:Nat) (hN:N ≤ 16) (s:Nat) (hs:s < 2 ^ N) (v18:List Int) (v19 v20 a b c:Int) (ts:List Trans) (o:Rw) :
    qlg (s:Int) v18 v19 v20 (N:Int) a ts b c o (0,[])=some (.inl (bitsL N s)):=by
  have h16:2 ^ N ≤ 2 ^ 16:=Nat.pow_le_pow_right (by omega) hN
  refine qa0 (fun i:Nat=>((i:Int),bitsL i s)) N (q4i (by omega)) _ (fun i hi=>?_) ?_ _ rfl
  · have e1:=bit_at s i (by omega) (by omega)
    have e2:=q12c i s
    have hl:=qqa i s
    have h0:(0:Int) ≤ (i:Int):=by omega
    cases hb:s.testBit i with
    | true =>
      rw [hb] at e1 e2
      rw [e2]
      simp only [q81,e1]
      simp (disch:=omega) only [ckB_ix,q7,q6,q8,ckB_mk,ckB_ne,bif_lt,qa,bif_le,qd,bif_eq,q9,bif_ne,qc,qb,q5,q4,bnd_ok,lk_inl,lk_inr,Int.toNat_natCast,decide_true]
      rw [qh]
      rfl
    | false =>
      rw [hb] at e1 e2
      rw [e2]
      simp only [q81,e1]
      simp (disch:=omega) only [ckB_ix,q7,q6,q8,ckB_mk,ckB_ne,bif_lt,qa,bif_le,qd,bif_eq,q9,bif_ne,qc,qb,q5,q4,bnd_ok,lk_inl,lk_inr,Int.toNat_natCast,decide_true]
      rw [qh]
      rfl
  · simp (disch:=omega) only [q81,ckB_ix,q7,q6,q8,ckB_mk,ckB_ne,bif_lt,qa,bif_le,qd,bif_eq,q9,bif_ne,qc,qb,q5,q4,bnd_ok,lk_inl,lk_inr,Int.toNat_natCast,decide_true]
include hn hN hs hv
noncomputable def q1q (n:Net) (N:Nat):Rw:=(fndL n N (2 ^ N)).map (bitsL N)
omit hn hN hs hv in
theorem qw9 (n:Net) (N s:Nat):(fndL n N s).length ≤ s:=by
  have:=List.length_filter_le (minB n N) (List.range s)
  rw [List.length_range] at this
  exact this
omit hn hs hv in
theorem q15t:Sh (q1q n N):=by
  intro i
  by_cases h:i < (q1q n N).length
  · have hm:=qx (l:=q1q n N) [] h
    unfold q1q at hm
    obtain ⟨k,_,hk⟩:=List.mem_map.1 hm
    unfold q1q
    rw [← hk]
    have:=qqa N k
    omega
  · rw [List.getD_eq_getElem?_getD,List.getElem?_eq_none (by omega)]
    show (0:Nat) ≤ _
    omega
theorem q13a (a:Int) (ts:List Trans) (b c:Int):ql2 ((fndL n N (2 ^ N)).map fun (k:Nat)=>(k:Int)) (((fndL n N (2 ^ N)).map fun (k:Nat)=>(k:Int)).length:Int) n.1 ts b c (0,[])=some (.inl (q1q n N)):=by
  have h16:2 ^ N ≤ 2 ^ 16:=Nat.pow_le_pow_right (by omega) hN
  have hfl:=qw9 n N (2 ^ N)
  have hlen:((fndL n N (2 ^ N)).map fun (k:Nat)=>(k:Int)).length=(fndL n N (2 ^ N)).length:=List.length_map ..
  have e:q1q n N=((fndL n N (2 ^ N)).take (fndL n N (2 ^ N)).length).map (bitsL N):=by rw [List.take_length]; rfl
  rw [e,hlen,hn]
  refine qa0 (fun i:Nat=>((i:Int),((fndL n N (2 ^ N)).take i).map (bitsL N))) (fndL n N (2 ^ N)).length (q4i (by omega)) _ (fun i hi=>?_) ?_ _ rfl
  · have hg:=qu4 (fndL n N (2 ^ N)) (fun (k:Nat)=>(k:Int)) 0 i hi
    have hk:(fndL n N (2 ^ N)).getD i 0 < 2 ^ N:=by
      have hm:=qx (l:=fndL n N (2 ^ N)) 0 hi
      unfold fndL at hm
      exact List.mem_range.1 (List.mem_filter.1 hm).1
    have e1:=q11r N hN ((fndL n N (2 ^ N)).getD i 0) hk ((fndL n N (2 ^ N)).map fun (k:Nat)=>(k:Int)) ((fndL n N (2 ^ N)).length:Int) (i:Int) (N:Int) b c ts (((fndL n N (2 ^ N)).take i).map (bitsL N))
    have hl:(((fndL n N (2 ^ N)).take i).map (bitsL N)).length=i:=by rw [List.length_map,List.length_take]; omega
    rw [q2i (fndL n N (2 ^ N)) i 0 hi,List.map_append]
    simp only [qa4,Int.toNat_natCast,hg,e1,bnd_ok,lk_inl,hl]
    simp (disch:=omega) only [ckB_ix,q7,q6,q8,ckB_mk,ckB_ne,bif_lt,qa,bif_le,qd,bif_eq,q9,bif_ne,qc,qb,q5,q4,bnd_ok,lk_inl,lk_inr,Int.toNat_natCast,decide_true]
    rw [qh]
    rfl
  · simp (disch:=omega) only [qa4,ckB_ix,q7,q6,q8,ckB_mk,ckB_ne,bif_lt,qa,bif_le,qd,bif_eq,q9,bif_ne,qc,qb,q5,q4,bnd_ok,lk_inl,lk_inr,Int.toNat_natCast,decide_true]
theorem qtu (h10:N ≤ 10):qa6 n=some (0,srt (q1q n N)):=by
  have h16:2 ^ N ≤ 2 ^ 10:=Nat.pow_le_pow_right (by omega) h10
  have hfl:=qw9 n N (2 ^ N)
  have hlen:(q1q n N).length=(fndL n N (2 ^ N)).length:=List.length_map ..
  have e1:=q11p n N hn hN hs hv
  have e2:=q13a n N hn hN hs hv 0 n.2.1 n.2.2.1 n.2.2.2.1
  have e3:=q15m (q1q n N) (q15t n N hN) (by omega)
  have e4:(srt (q1q n N)).length=(q1q n N).length:=(List.mergeSort_perm _ _).length_eq
  unfold qa6
  rw [quv hs,hv]
  have hlt:¬ (16:Int) < n.1:=by omega
  simp only [bnd_ok,e1,e2,lk_inl,e3]
  rw [q3c (decide_eq_true e4),decide_eq_false hlt]
  rfl
end
end Go.Proofs.Ytjhojmninmipcaa
