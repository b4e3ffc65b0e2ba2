/-
  Siphon: the minimal siphons as the program finds them.
-/
import Derived.Test.YtjhojmninmipcaaZ9W1
set_option linter.all false
namespace Go.Proofs.Ytjhojmninmipcaa
open Go.K Go.M
theorem qu4 {α:Type} (l:List α) (f:α → Int) (d:α) (i:Nat) (h:i < l.length):(l.map f).getD i 0=f (l.getD i d):=by
  simp [List.getD_eq_getElem?_getD,h]
theorem q159 (s i:Nat):decide (((s &&& 2 ^ i:Nat):Int)=0)=!s.testBit i:=by
  have e:(((s &&& 2 ^ i:Nat):Int)=0) ↔ s &&& 2 ^ i=0:=by omega
  cases h:s.testBit i with
  | true =>
    refine decide_eq_false fun hc=>qqj.1 (e.1 hc) i ⟨h,?_⟩
    simp [Nat.testBit_two_pow]
  | false =>
    refine decide_eq_true (e.2 (qqj.2 fun p hp=>?_))
    rw [Nat.testBit_two_pow] at hp
    have:=of_decide_eq_true hp.2
    subst this
    rw [h] at hp
    cases hp.1
theorem qxe {l:List Int} {N s:Nat} (h:∀ x ∈ l,(0:Int) ≤ x ∧ x < (N:Int)) (hs:s < 2 ^ 32) (hN:N ≤ 16):decide (bitI .and .u32 ((maskN l:Nat):Int) (s:Int)=0)=!meetB l (bitsL N s):=by
  have hm:maskN l < 2 ^ N:=qww h
  have h16:2 ^ N ≤ 2 ^ 16:=Nat.pow_le_pow_right (by omega) hN
  rw [and32 _ _ (by omega) hs,← q14d h]
  exact decide_eq_decide.2 ⟨fun h=>by omega,fun h=>by omega⟩
section
variable (n:Net) (N:Nat) (hn:n.1=(N:Int)) (hN:N ≤ 16) (hs:Small n) (hv:validN n=true)
include hn hN hs hv
omit hN hs in
theorem ins_in {t:Trans} (ht:t ∈ n.2.1):(∀ x ∈ t.2.1,(0:Int) ≤ x ∧ x < (N:Int)) ∧ ∀ x ∈ t.2.2.1,(0:Int) ≤ x ∧ x < (N:Int):=by
  have:=qlw hv ht
  rw [← hn]
  exact ⟨(qee.1 this.1).1,(qee.1 this.2).1⟩
abbrev mIn (n:Net):List Int:=n.2.1.map fun t=>((maskN t.2.1:Nat):Int)
abbrev mOut (n:Net):List Int:=n.2.1.map fun t=>((maskN t.2.2.1:Nat):Int)
theorem q14a:qn1 n.2.1 (n.2.1.length:Int) n.1 n.2.1 n.2.2.1 n.2.2.2.1 (0,[],[])=some (.inl (mIn n,mOut n)):=by
  have hlen:=hs.trans
  have e:(mIn n,mOut n)=((n.2.1.take n.2.1.length).map fun t=>((maskN t.2.1:Nat):Int),(n.2.1.take n.2.1.length).map fun t=>((maskN t.2.2.1:Nat):Int)):=by rw [List.take_length]
  rw [e]
  refine qa0 (fun i:Nat=>((i:Int),((n.2.1.take i).map fun t=>((maskN t.2.1:Nat):Int)),(n.2.1.take i).map fun t=>((maskN t.2.2.1:Nat):Int))) n.2.1.length (q4i (by omega)) _ (fun i hi=>?_) ?_ _ rfl
  · have ht:=qx Trans.z hi
    obtain ⟨h1,h2⟩:=ins_in n N hn hv ht
    have e1:=qzc h1 hN (Nat.le_trans (hs.ins _ ht) (by omega))
    have e2:=qzc h2 hN (Nat.le_trans (hs.outs _ ht) (by omega))
    have l1:((n.2.1.take i).map fun t=>((maskN t.2.1:Nat):Int)).length=i:=by rw [List.length_map,List.length_take]; omega
    have l2:((n.2.1.take i).map fun t=>((maskN t.2.2.1:Nat):Int)).length=i:=by rw [List.length_map,List.length_take]; omega
    rw [q2i n.2.1 i Trans.z hi,List.map_append,List.map_append]
    simp only [qbo,Int.toNat_natCast,e1,e2,bnd_ok,l1,l2]
    simp (disch:=omega) only [ckB_ix,q7,q6,q8,ckB_mk,ckB_ne,bif_lt,qa,bif_le,qd,bif_eq,q9,bif_ne,qc,qb,q5,q4,bnd_ok,lk_inl,lk_inr,Int.toNat_natCast,decide_true]
    rw [qh]
    rfl
  · simp (disch:=omega) only [qbo,ckB_ix,q7,q6,q8,ckB_mk,ckB_ne,bif_lt,qa,bif_le,qd,bif_eq,q9,bif_ne,qc,qb,q5,q4,bnd_ok,lk_inl,lk_inr,Int.toNat_natCast,decide_true]
noncomputable def tabS (n:Net) (N s i:Nat):List Bool:=tab (2 ^ N) fun k=>if k=s then subSip n N i s else decide (k < s) && sipB n N k
noncomputable def tabT (n:Net) (N s:Nat):List Bool:=tab (2 ^ N) fun k=>decide (k < s) && sipB n N k
theorem q13l (s:Nat) (h1:1 ≤ s) (hsN:s < 2 ^ N) (a b c d:List Int):qn6 a b (s:Int) (N:Int) n.1 n.2.1 n.2.2.1 n.2.2.2.1 c (0,tabT n N s)=some (.inl (tabS n N s N)):=by
  have h16:2 ^ N ≤ 2 ^ 16:=Nat.pow_le_pow_right (by omega) hN
  refine qa0 (fun i:Nat=>((i:Int),tabS n N s i)) N (q4i (by omega)) _ (fun i hi=>?_) ?_ _ ?_
  · have hp:2 ^ i < 2 ^ 32:=Nat.pow_lt_pow_right (by omega) (by omega)
    have e1:=shl32 (show i < 32 by omega)
    have e2:=and32 s (2 ^ i) (by omega) hp
    have e3:=q159 s i
    have e4:=not32 s i
    cases hb:s.testBit i with
    | false =>
      have e5:tabS n N s (i + 1)=tabS n N s i:=by
        unfold tabS
        rw [show subSip n N (i + 1) s=subSip n N i s by rw [qoi,hb]; simp]
      rw [e5]
      rw [hb] at e3
      simp only [q6c,e1,e2,e3]
      simp (disch:=omega) only [ckB_ix,q7,q6,q8,ckB_mk,ckB_ne,bif_lt,qa,bif_le,qd,bif_eq,q9,bif_ne,qc,qb,q5,q4,bnd_ok,lk_inl,lk_inr,Int.toNat_natCast,decide_true]
      rw [qh,q3c (decide_eq_true (Int.natCast_nonneg i))]
    | true =>
      rw [hb] at e3
      have hlt:=clr_lt (by omega) hb
      have hlen:(tabS n N s i).length=2 ^ N:=q11e _ _
      have e6:(tabS n N s i).getD (clr s i) false=sipB n N (clr s i):=by
        unfold tabS
        rw [qyn (by omega),if_neg (by omega),decide_eq_true hlt,Bool.true_and]
      cases hq:sipB n N (clr s i) with
      | false =>
        have e5:tabS n N s (i + 1)=tabS n N s i:=by
          unfold tabS
          rw [show subSip n N (i + 1) s=subSip n N i s by rw [qoi,hb,hq]; simp]
        rw [e5]
        rw [hq] at e6
        simp only [q6c,e1,e2,e3,e4,Int.toNat_natCast,e6,hlen]
        simp (disch:=omega) only [ckB_ix,q7,q6,q8,ckB_mk,ckB_ne,bif_lt,qa,bif_le,qd,bif_eq,q9,bif_ne,qc,qb,q5,q4,bnd_ok,lk_inl,lk_inr,Int.toNat_natCast,decide_true]
        rw [qh,q3c (decide_eq_true (Int.natCast_nonneg i))]
      | true =>
        have e5:tabS n N s (i + 1)=(tabS n N s i).set s true:=by
          unfold tabS
          rw [q11d,show subSip n N (i + 1) s=true by rw [qoi,hb,hq]; simp]
          refine qjx fun k _=>?_
          by_cases hk:k=s
          · rw [if_pos hk,if_pos hk]
          · rw [if_neg hk,if_neg hk,if_neg hk]
        rw [e5]
        rw [hq] at e6
        simp only [q6c,e1,e2,e3,e4,Int.toNat_natCast,e6,hlen]
        simp (disch:=omega) only [ckB_ix,q7,q6,q8,ckB_mk,ckB_ne,bif_lt,qa,bif_le,qd,bif_eq,q9,bif_ne,qc,qb,q5,q4,bnd_ok,lk_inl,lk_inr,Int.toNat_natCast,decide_true]
        rw [qh,q3c (decide_eq_true (Int.natCast_nonneg i))]
  · simp (disch:=omega) only [q6c,ckB_ix,q7,q6,q8,ckB_mk,ckB_ne,bif_lt,qa,bif_le,qd,bif_eq,q9,bif_ne,qc,qb,q5,q4,bnd_ok,lk_inl,lk_inr,Int.toNat_natCast,decide_true]
  · unfold tabS tabT
    congr 1
    refine qjx fun k _=>?_
    by_cases hk:k=s
    · subst hk
      rw [if_pos rfl,decide_eq_false (Nat.lt_irrefl k)]
      rfl
    · rw [if_neg hk]
theorem q13s (s:Nat) (hsN:s < 2 ^ N) (T:List Bool) (F:List Int):qn0 (mIn n) (mOut n) (s:Int) ((mIn n).length:Int) n.1 n.2.1 n.2.2.1 n.2.2.2.1 T F (true,0)=some (.inl (clo n N s)):=by
  have h16:2 ^ N ≤ 2 ^ 16:=Nat.pow_le_pow_right (by omega) hN
  have hlen:=hs.trans
  have l1:(mIn n).length=n.2.1.length:=List.length_map ..
  have l2:(mOut n).length=n.2.1.length:=List.length_map ..
  have e:clo n N s=(n.2.1.take n.2.1.length).all fun t=>!openT false (bitsL N s) t:=by
    rw [List.take_length]
    unfold clo qen
    rw [List.not_any_eq_all_not]
  rw [e,l1]
  refine qa0 (fun i:Nat=>((n.2.1.take i).all fun t=>!openT false (bitsL N s) t,(i:Int))) n.2.1.length (q4i (by omega)) _ (fun i hi=>?_) ?_ _ rfl
  · have ht:=qx Trans.z hi
    obtain ⟨h1,h2⟩:=ins_in n N hn hv ht
    have g1:(mIn n).getD i 0=_:=qu4 n.2.1 (fun t=>((maskN t.2.1:Nat):Int)) Trans.z i hi
    have g2:(mOut n).getD i 0=_:=qu4 n.2.1 (fun t=>((maskN t.2.2.1:Nat):Int)) Trans.z i hi
    have m1:=qxe (s:=s) h1 (by omega) hN
    have m2:=qxe (s:=s) h2 (by omega) hN
    have e3:((n.2.1.take (i + 1)).all fun t=>!openT false (bitsL N s) t)=(((n.2.1.take i).all fun t=>!openT false (bitsL N s) t) && !(meetB (n.2.1.getD i Trans.z).2.2.1 (bitsL N s) && !meetB (n.2.1.getD i Trans.z).2.1 (bitsL N s))):=by
      rw [q2i n.2.1 i Trans.z hi,List.all_append]
      congr 1
      show ((_ && true):Bool)=_
      rw [Bool.and_true]
      rfl
    rw [e3]
    simp only [qbn,Int.toNat_natCast,g1,g2,m1,m2,l1,l2]
    simp (disch:=omega) only [ckB_ix,q7,q6,q8,ckB_mk,ckB_ne,bif_lt,qa,bif_le,qd,bif_eq,q9,bif_ne,qc,qb,q5,q4,bnd_ok,lk_inl,lk_inr,Int.toNat_natCast,decide_true]
    rw [qh]
    cases ((n.2.1.take i).all fun t=>!openT false (bitsL N s) t) <;> cases meetB (n.2.1.getD i Trans.z).2.2.1 (bitsL N s) <;> cases meetB (n.2.1.getD i Trans.z).2.1 (bitsL N s) <;> rfl
  · simp (disch:=omega) only [qbn,ckB_ix,q7,q6,q8,ckB_mk,ckB_ne,bif_lt,qa,bif_le,qd,bif_eq,q9,bif_ne,qc,qb,q5,q4,bnd_ok,lk_inl,lk_inr,Int.toNat_natCast,decide_true]
noncomputable def fndL (n:Net) (N s:Nat):List Nat:=(List.range s).filter (minB n N)
omit hn hN hs hv in
theorem quw (n:Net) (N s:Nat):fndL n N (s + 1)=bif minB n N s then fndL n N s ++ [s] else fndL n N s:=by
  unfold fndL
  rw [List.range_succ,List.filter_append]
  cases h:minB n N s <;> simp [h]
theorem q14g:qge (mIn n) (mOut n) n.1 n.2.1 n.2.2.1 n.2.2.2.1 (1,tabT n N 1,[])=some (.inl ((fndL n N (2 ^ N)).map fun (k:Nat)=>(k:Int))):=by
  have h16:2 ^ N ≤ 2 ^ 16:=Nat.pow_le_pow_right (by omega) hN
  have h0:1 ≤ 2 ^ N:=Nat.one_le_two_pow
  have hz:fndL n N 1=[]:=by
    rw [quw]
    rfl
  have eN:(2 ^ N - 1) + 1=2 ^ N:=by omega
  have e:(fndL n N (2 ^ N)).map (fun (k:Nat)=>(k:Int))=(fndL n N ((2 ^ N - 1) + 1)).map fun (k:Nat)=>(k:Int):=by rw [eN]
  have hsh:=shl32 (show N < 32 by omega)
  rw [e]
  refine qa0 (fun i:Nat=>(((i + 1:Nat):Int),tabT n N (i + 1),(fndL n N (i + 1)).map fun (k:Nat)=>(k:Int))) (2 ^ N - 1) (q4i (by omega)) _ (fun i hi=>?_) ?_ _ ?_
  · generalize hsi:i + 1=s
    have hsN:s < 2 ^ N:=by omega
    have h1:1 ≤ s:=by omega
    have e1:=q13l n N hn hN hs hv s h1 hsN (mIn n) (mOut n) ((fndL n N s).map fun (k:Nat)=>(k:Int)) []
    have hlen:(tabS n N s N).length=2 ^ N:=q11e _ _
    have hg:(tabS n N s N).getD s false=subSip n N N s:=by
      unfold tabS
      rw [qyn hsN,if_pos rfl]
    have hrec:=q14w (n:=n) hsN hN h1
    have hw:IntKind.wrap .u32 ((s:Int) + 1)=((s + 1:Nat):Int):=by
      rw [qh]
      exact wrap32 _ (by omega)
    have hfl:(fndL n N s).length ≤ s:=by
      have:=List.length_filter_le (minB n N) (List.range s)
      rw [List.length_range] at this
      exact this
    have hfl':((fndL n N s).map fun (k:Nat)=>(k:Int)).length ≤ s:=by rw [List.length_map]; exact hfl
    have hT:∀ b,sipB n N s=b → tabT n N (s + 1)=tab (2 ^ N) fun k=>if k=s then b else decide (k < s) && sipB n N k:=by
      intro b hb
      unfold tabT
      refine qjx fun k _=>?_
      by_cases hk:k=s
      · rw [if_pos hk,hk,hb,decide_eq_true (by omega),Bool.true_and]
      · rw [if_neg hk]
        congr 1
        exact decide_eq_decide.2 ⟨fun h=>by omega,fun h=>by omega⟩
    have hlt:(s:Int) < ((2 ^ N:Nat):Int):=by omega
    have hn0:(0:Int) ≤ (N:Int):=by omega
    show q6b (mIn n) (mOut n) n.1 n.2.1 n.2.2.1 n.2.2.2.1 (s:Int) (tabT n N s) ((fndL n N s).map fun (k:Nat)=>(k:Int)) _ _ _=_
    unfold q6b
    rw [hn] at e1 ⊢
    rw [q3c (decide_eq_true hn0),hsh,decide_eq_true hlt,cond_true,e1,bnd_ok,lk_inl]
    cases hq:subSip n N N s with
    | true =>
      rw [hq] at hg hrec
      have e5:tabT n N (s + 1)=tabS n N s N:=by
        rw [hT true hrec]
        unfold tabS
        rw [hq]
      have e6:fndL n N (s + 1)=fndL n N s:=by
        rw [quw,show minB n N s=false by unfold minB; rw [hq]; simp]
        rfl
      rw [e5,e6]
      simp only [Int.toNat_natCast,hg,hlen,hw]
      simp (disch:=omega) only [ckB_ix,q7,q6,q8,ckB_mk,ckB_ne,bif_lt,qa,bif_le,qd,bif_eq,q9,bif_ne,qc,qb,q5,q4,bnd_ok,lk_inl,lk_inr,Int.toNat_natCast,decide_true]
    | false =>
      rw [hq] at hg hrec
      rw [Bool.false_or] at hrec
      have e2:=q13s n N hn hN hs hv s hsN (tabS n N s N) ((fndL n N s).map fun (k:Nat)=>(k:Int))
      rw [hn] at e2
      have hmin:minB n N s=clo n N s:=by
        unfold minB
        rw [hq,decide_eq_true h1]
        rfl
      have e6:=quw n N s
      rw [hmin] at e6
      cases hc:clo n N s with
      | true =>
        rw [hc] at hrec e2 e6
        have e5:tabT n N (s + 1)=(tabS n N s N).set s true:=by
          rw [hT true hrec]
          unfold tabS
          rw [q11d]
          refine qjx fun k _=>?_
          by_cases hk:k=s
          · rw [if_pos hk,if_pos hk]
          · rw [if_neg hk,if_neg hk,if_neg hk]
        rw [e5,e6]
        simp only [Int.toNat_natCast,hg,hlen,hw,e2,bnd_ok,lk_inl]
        simp (disch:=omega) only [ckB_ix,q7,q6,q8,ckB_mk,ckB_ne,bif_lt,qa,bif_le,qd,bif_eq,q9,bif_ne,qc,qb,q5,q4,bnd_ok,lk_inl,lk_inr,Int.toNat_natCast,decide_true]
        simp
      | false =>
        rw [hc] at hrec e2 e6
        have e5:tabT n N (s + 1)=tabS n N s N:=by
          rw [hT false hrec]
          unfold tabS
          rw [hq]
        rw [e5,e6]
        simp only [Int.toNat_natCast,hg,hlen,hw,e2,bnd_ok,lk_inl]
        simp (disch:=omega) only [ckB_ix,q7,q6,q8,ckB_mk,ckB_ne,bif_lt,qa,bif_le,qd,bif_eq,q9,bif_ne,qc,qb,q5,q4,bnd_ok,lk_inl,lk_inr,Int.toNat_natCast,decide_true]
  · have hnlt:¬ (((2 ^ N - 1 + 1:Nat):Int)) < ((2 ^ N:Nat):Int):=by omega
    have hn0:(0:Int) ≤ (N:Int):=by omega
    show q6b (mIn n) (mOut n) n.1 n.2.1 n.2.2.1 n.2.2.2.1 _ _ _ _ _ _=_
    unfold q6b
    rw [hn,q3c (decide_eq_true hn0),hsh,decide_eq_false hnlt]
    rfl
  · rw [hz]
    rfl
theorem q11p:qcd n=some ((fndL n N (2 ^ N)).map fun (k:Nat)=>(k:Int)):=by
  have h16:2 ^ N ≤ 2 ^ 16:=Nat.pow_le_pow_right (by omega) hN
  have hn0:(0:Int) ≤ (N:Int):=by omega
  have hsh:=shlI64 (show N < 32 by omega)
  have e3:=q14g n N hn hN hs hv
  have ez:List.replicate (2 ^ N) false=tabT n N 1:=by
    rw [q154]
    unfold tabT
    refine qjx fun k _=>?_
    by_cases hk:k < 1
    · have:sipB n N k=false:=by
        refine Bool.eq_false_iff.2 fun hc=>?_
        obtain ⟨f,h1,h2,_⟩:=qn7.1 hc
        have:=qwp h2
        omega
      rw [this,Bool.and_false]
    · rw [decide_eq_false hk]
      rfl
  unfold qcd
  rw [q14a n N hn hN hs hv,bnd_ok,lk_inl]
  rw [hn] at e3 ⊢
  rw [q3c (decide_eq_true hn0),hsh]
  clear hsh
  have q0:(0:Int) ≤ ((2 ^ N:Nat):Int):=Int.natCast_nonneg _
  have q1:((2 ^ N:Nat):Int) ≤ 65536:=Int.ofNat_le.2 h16
  rw [ckB_mk q0 (Int.le_refl _) (by omega) (by omega),Int.toNat_natCast,ez]
  show bnd (qge _ _ _ _ _ _ _) _=_
  rw [e3]
  rfl
end
end Go.Proofs.Ytjhojmninmipcaa
