/-
  Siphon: a dead marking's empty places; the law SiphonDead.
-/
import Derived.Test.YtjhojmninmipcaaZ9W5
set_option linter.all false
namespace Go.Proofs.Ytjhojmninmipcaa
open Go.K Go.M
theorem min_in {n:Net} {N:Nat} (hN:N ≤ 16):∀ (k f:Nat),f ≤ k → 1 ≤ f → f < 2 ^ N → clo n N f=true → ∃ g,g < 2 ^ N ∧ SubN g f ∧ minB n N g=true:=by
  intro k
  induction k with
  | zero => intro f h1 h2; omega
  | succ k ih =>
    intro f hk h1 hf hc
    have h16:2 ^ N ≤ 2 ^ 16:=Nat.pow_le_pow_right (by omega) hN
    cases hq:subSip n N N f with
    | false => exact ⟨f,hf,fun _ h=>h,by unfold minB; rw [hq,hc,decide_eq_true h1]; rfl⟩
    | true =>
      obtain ⟨p,_,hp⟩:=List.any_eq_true.1 hq
      rw [Bool.and_eq_true,qn7] at hp
      obtain ⟨hp1,e,e1,e2,e3⟩:=hp
      have hlt:=clr_lt (by omega) hp1
      have hle:=qwp e2
      obtain ⟨g,g1,g2,g3⟩:=ih e (by omega) e1 (by omega) e3
      exact ⟨g,g1,fun i hi=>qws (by omega) i (e2 i (g2 i hi)),g3⟩
theorem q14p (ts:List Trans) (h:ts.length ≤ 1000000):q1j ts=some (ts.any fun t=>decide ((t.2.1.length:Int)=0)):=by
  have hL:q5s ts (ts.length:Int) 0=some (fOut (fun i=>(i:Int)) (fidx (fun t=>decide ((t.2.1.length:Int)=0)) ts)):=by
    refine q5d ts Trans.z (fun t=>decide ((t.2.1.length:Int)=0)) (fun i=>(i:Int)) (by omega) (fun i hi=>?_) ?_
    · simp (disch:=omega) only [q1h,qe5,ckB_ix,q7,q6,q8,ckB_mk,ckB_ne,bif_lt,qa,bif_le,qd,bif_eq,q9,bif_ne,qc,qb,q5,q4,bnd_ok,lk_inl,lk_inr,Int.toNat_natCast,decide_true]
      rw [qh]
      cases decide (((ts.getD i Trans.z).2.1.length:Int)=0) <;> rfl
    · simp (disch:=omega) only [q1h,ckB_ix,q7,q6,q8,ckB_mk,ckB_ne,bif_lt,qa,bif_le,qd,bif_eq,q9,bif_ne,qc,qb,q5,q4,bnd_ok,lk_inl,lk_inr,Int.toNat_natCast,decide_true]
  unfold q1j q35
  rw [hL,bnd_ok,qbp,bnd_ok,qd3]
theorem out_eq (s e:List Int) (hs:s.length ≤ 1000000) (he:e.length ≤ 1000000):q3k s e=some (s.any fun p=>!memB e p):=by
  have hL:qbc s e (s.length:Int) 0=some (fOut (fun i=>(i:Int)) (fidx (fun p=>!memB e p) s)):=by
    refine q5d s 0 (fun p=>!memB e p) (fun i=>(i:Int)) (by omega) (fun i hi=>?_) ?_
    · have e1:=qol e he (s.getD i 0)
      simp (disch:=omega) only [q3l,qcn,e1,ckB_ix,q7,q6,q8,ckB_mk,ckB_ne,bif_lt,qa,bif_le,qd,bif_eq,q9,bif_ne,qc,qb,q5,q4,bnd_ok,lk_inl,lk_inr,Int.toNat_natCast,decide_true]
      rw [qh]
      cases memB e (s.getD i 0) <;> rfl
    · simp (disch:=omega) only [q3l,ckB_ix,q7,q6,q8,ckB_mk,ckB_ne,bif_lt,qa,bif_le,qd,bif_eq,q9,bif_ne,qc,qb,q5,q4,bnd_ok,lk_inl,lk_inr,Int.toNat_natCast,decide_true]
  unfold q3k q7u
  rw [hL,bnd_ok,qbp,bnd_ok,qd3]
def inB (e s:List Int):Bool:=decide (0 < (s.length:Int)) && !s.any fun p=>!memB e p
theorem q13k (rows:Rw) (e:List Int) (hr:rows.length ≤ 1000000) (hs:∀ i,i < rows.length → (rows.getD i []).length ≤ 1000000) (he:e.length ≤ 1000000):q3p rows e=some (rows.any (inB e)):=by
  have hL:qbb rows e (rows.length:Int) 0=some (fOut (fun i=>(i:Int)) (fidx (inB e) rows)):=by
    refine q5d rows [] (inB e) (fun i=>(i:Int)) (by omega) (fun i hi=>?_) ?_
    · have e1:=out_eq (rows.getD i []) e (hs i hi) he
      unfold inB
      simp (disch:=omega) only [q3g,qdw,e1,ckB_ix,q7,q6,q8,ckB_mk,ckB_ne,bif_lt,qa,bif_le,qd,bif_eq,q9,bif_ne,qc,qb,q5,q4,bnd_ok,lk_inl,lk_inr,Int.toNat_natCast,decide_true]
      rw [qh]
      cases decide (0 < ((rows.getD i []).length:Int)) <;> cases ((rows.getD i []).any fun p=>!memB e p) <;> rfl
    · simp (disch:=omega) only [q3g,ckB_ix,q7,q6,q8,ckB_mk,ckB_ne,bif_lt,qa,bif_le,qd,bif_eq,q9,bif_ne,qc,qb,q5,q4,bnd_ok,lk_inl,lk_inr,Int.toNat_natCast,decide_true]
  unfold q3p q7q
  rw [hL,bnd_ok,qbp,bnd_ok,qd3]
def emN (x:List Int) (i:Nat):List Nat:=(List.range i).filter fun j=>decide (x.getD j 0=0)
def emL (x:List Int):List Int:=(emN x x.length).map fun (j:Nat)=>(j:Int)
theorem qwy {x:List Int} {p:Int}:p ∈ emL x ↔ 0 ≤ p ∧ p < x.length ∧ x.getD p.toNat 0=0:=by
  unfold emL emN
  rw [List.mem_map]
  constructor
  · rintro ⟨j,hj,rfl⟩
    have:=List.mem_filter.1 hj
    have h1:=List.mem_range.1 this.1
    have h2:=of_decide_eq_true this.2
    exact ⟨by omega,by omega,by rw [Int.toNat_natCast]; exact h2⟩
  · rintro ⟨h1,h2,h3⟩
    exact ⟨p.toNat,List.mem_filter.2 ⟨List.mem_range.2 (by omega),decide_eq_true h3⟩,by omega⟩
theorem q14v (x:List Int):(emL x).length ≤ x.length:=by
  unfold emL emN
  rw [List.length_map]
  exact Nat.le_trans (List.length_filter_le _ _) (Nat.le_of_eq List.length_range)
theorem q15g (x:List Int):setB (x.length:Int) (emL x)=true:=by
  refine qee.2 ⟨fun p hp=>by have:=qwy.1 hp; omega,?_⟩
  unfold emL emN
  rw [List.pairwise_map]
  exact (List.Pairwise.filter _ List.pairwise_lt_range).imp fun h=>by omega
theorem q13q (m x:List Int) (a b c:Int) (ts:List Trans) (hx:x.length ≤ 1000000):qju m x (x.length:Int) a ts b c (0,[])=some (.inl (emL x)):=by
  unfold emL
  refine qa0 (fun i:Nat=>((i:Int),(emN x i).map fun (j:Nat)=>(j:Int))) x.length (q4i (by omega)) _ (fun i hi=>?_) ?_ _ rfl
  · have e2:emN x (i + 1)=bif decide (x.getD i 0=0) then emN x i ++ [i] else emN x i:=by
      unfold emN
      rw [List.range_succ,List.filter_append]
      cases hc:decide (x.getD i 0=0) with
      | true => rw [filt_t (p:=fun j=>decide (x.getD j 0=0)) hc]; rfl
      | false => rw [filt_f (p:=fun j=>decide (x.getD j 0=0)) hc,List.append_nil]; rfl
    have hle:((emN x i).map fun (j:Nat)=>(j:Int)).length ≤ i:=by
      rw [List.length_map]
      have:=List.length_filter_le (fun j=>decide (x.getD j 0=0)) (List.range i)
      rw [List.length_range] at this
      exact this
    rw [e2]
    by_cases hz:x.getD i 0=0
    · rw [decide_eq_true hz]
      simp (disch:=omega) only [q6y,ckB_ix,q7,q6,q8,ckB_mk,ckB_ne,bif_lt,qa,bif_le,qd,bif_eq,q9,bif_ne,qc,qb,q5,q4,bnd_ok,lk_inl,lk_inr,Int.toNat_natCast,decide_true]
      rw [qh,List.map_append]
      rfl
    · rw [decide_eq_false hz]
      simp (disch:=omega) only [q6y,ckB_ix,q7,q6,q8,ckB_mk,ckB_ne,bif_lt,qa,bif_le,qd,bif_eq,q9,bif_ne,qc,qb,q5,q4,bnd_ok,lk_inl,lk_inr,Int.toNat_natCast,decide_true]
      rw [qh]
  · simp (disch:=omega) only [q6y,ckB_ix,q7,q6,q8,ckB_mk,ckB_ne,bif_lt,qa,bif_le,qd,bif_eq,q9,bif_ne,qc,qb,q5,q4,bnd_ok,lk_inl,lk_inr,Int.toNat_natCast,decide_true]
theorem qvq (n:Net) (m run:List Int):qgo n m run=some true:=by
  obtain ⟨b,hb,hF⟩:=q13i n
  unfold qgo
  rw [q11x,hb]
  simp only [bnd_ok]
  cases b with
  | true => rfl
  | false =>
    obtain ⟨h,_,hpl⟩:=hF rfl
    by_cases h16:(16:Int) < n.1
    · rw [decide_eq_true h16]; rfl
    · by_cases hm60:(60:Int) < (m.length:Int)
      · rw [decide_eq_true hm60,decide_eq_false h16]; rfl
      · by_cases hr60:(60:Int) < (run.length:Int)
        · rw [decide_eq_true hr60,decide_eq_false h16,decide_eq_false hm60]; rfl
        · rw [decide_eq_false hr60,decide_eq_false h16,decide_eq_false hm60,q107 h]
          simp only [bnd_ok]
          cases hv:validN n with
          | false => rfl
          | true =>
            have hlen:=h.trans
            by_cases ht0:(n.2.1.length:Int)=0
            · rw [decide_eq_true ht0]; rfl
            · rw [decide_eq_false ht0,q14p n.2.1 (by omega)]
              simp only [bnd_ok]
              cases hni:n.2.1.any fun t=>decide ((t.2.1.length:Int)=0) with
              | true => rfl
              | false =>
                have hml:m.length ≤ 1000000:=by omega
                obtain ⟨r,hrun,hok⟩:=Run_eq h m run hml (by omega) (fun x=>∀ W,Closed n.2.1 true W → (∀ p ∈ W,0 ≤ p ∧ p < n.1) → mkdB m W=true → mkdB x W=true) (fun _ _ _ _ h=>h) (fun m t x hm hf hq W hW hb h0=>q11m hf hm hW hb (hq W hW hb h0))
                rw [hrun]
                simp only [bnd_ok]
                by_cases hz:r.2.2=0
                · obtain ⟨_,hmk,hmk2,hQ⟩:=hok hz
                  generalize hx:r.1=x at hmk2 hQ
                  have hmN:=(qdy.1 hmk).1
                  have hxN:=(qdy.1 hmk2).1
                  have hxl:x.length ≤ 1000000:=by omega
                  have e1:=qvw h x hxl
                  rw [hv,hmk2] at e1
                  have e2:((x.length:Int)=(m.length:Int)):=by omega
                  rw [e1,decide_eq_true hz]
                  simp only [bnd_ok,Bool.and_self,cond_true,decide_true,Bool.not_true,cond_false,decide_eq_true e2]
                  by_cases hen:(0:Int) < ((enL n x).length:Int)
                  · rw [decide_eq_true hen]; rfl
                  · rw [decide_eq_false hen,cond_false,q13q m x n.1 n.2.2.1 n.2.2.2.1 n.2.1 hxl,bnd_ok,lk_inl]
                    have hdead:∀ t ∈ n.2.1,∃ p ∈ t.2.1,p ∈ emL x:=by
                      intro t ht
                      obtain ⟨i,hi,rfl⟩:=qq9 Trans.z ht
                      have hc:canB (n.2.1.getD i Trans.z) x=false:=by
                        cases hc:canB (n.2.1.getD i Trans.z) x with
                        | false => rfl
                        | true =>
                          have hmem:((i:Nat):Int) ∈ enL n x:=List.mem_map.2 ⟨i,List.mem_filter.2 ⟨List.mem_range.2 hi,hc⟩,rfl⟩
                          have:=List.length_pos_of_mem hmem
                          omega
                      unfold canB at hc
                      rw [Bool.not_eq_false'] at hc
                      obtain ⟨p,hp,hp2⟩:=List.any_eq_true.1 hc
                      have hb:=(qee.1 (qlw hv ht).1).1 p hp
                      exact ⟨p,hp,qwy.2 ⟨hb.1,by omega,of_decide_eq_true hp2⟩⟩
                    have hel:=q14v x
                    have hset:=q15g x
                    rw [hxN] at hset
                    have hcl:Closed n.2.1 false (emL x):=qlt.2 fun t ht _=>hdead t ht
                    have hne:emL x ≠ []:=by
                      have h0:0 < n.2.1.length:=by omega
                      obtain ⟨p,_,hp⟩:=hdead _ (qx Trans.z h0)
                      intro hc
                      rw [hc] at hp
                      cases hp
                    have hv1:1 ≤ n.1:=by
                      unfold validN at hv
                      simp only [Bool.and_eq_true,decide_eq_true_eq] at hv
                      omega
                    have h10:n.1 ≤ 10:=by
                      rcases hpl with h | h
                      · exact h
                      · exact absurd h h16
                    obtain ⟨N,hn⟩:∃ N:Nat,n.1=(N:Int):=⟨n.1.toNat,by omega⟩
                    have hN:N ≤ 10:=by omega
                    have hb:=(qee.1 hset).1
                    rw [hn] at hb
                    have hk1:=q13x (fun p hp=>(hb p hp).1) hne
                    have hk2:=qww hb
                    obtain ⟨g,g1,g2,g3⟩:=min_in (n:=n) (N:=N) (by omega) _ _ (Nat.le_refl _) hk1 hk2 (clo_of hb hcl)
                    have hg1:1 ≤ g:=by
                      unfold minB at g3
                      rw [Bool.and_eq_true,decide_eq_true_eq] at g3
                      exact g3.1
                    have hsub:∀ p ∈ bitsL N g,p ∈ emL x:=by
                      intro p hp
                      obtain ⟨q,_,q2,rfl⟩:=qgb.1 hp
                      have:=g2 q q2
                      rw [qgu fun p hp=>(hb p hp).1,q8g] at this
                      exact this
                    have hrow:bitsL N g ∈ srt (q1q n N):=(List.mergeSort_perm _ _).mem_iff.2 (List.mem_map.2 ⟨g,List.mem_filter.2 ⟨List.mem_range.2 g1,g3⟩,rfl⟩)
                    obtain ⟨f1,f2⟩:=qxm n N hn hN
                    have hgl:=qqa N g
                    obtain ⟨_,hG⟩:=qxa h (bitsL N g) (by omega)
                    have hbad:badS n h m (bitsL N g)=true:=by
                      unfold badS
                      rw [Bool.not_eq_true']
                      refine Bool.eq_false_iff.2 fun hc=>?_
                      have:=hQ (trapOf n h (bitsL N g)) hG.2 (fun p hp=>by rw [hn]; exact hb p (hsub p (qsg hG p hp))) hc
                      obtain ⟨p,hp,hpos⟩:=qq3.1 this
                      have:=(qwy.1 (hsub p (qsg hG p hp))).2.2
                      omega
                    have hcom:∃ s,cOut n h m (srt (q1q n N))=(false,s,0):=by
                      unfold cOut
                      cases hf:fidx (badS n h m) (srt (q1q n N)) with
                      | none =>
                        have:=qoa hf _ hrow
                        rw [hbad] at this
                        cases this
                      | some i => exact ⟨_,rfl⟩
                    obtain ⟨s,hcom⟩:=hcom
                    have e3:=q10b n N hn hN h hv m hmk hml
                    rw [hcom] at e3
                    have e4:=qtu n N hn (by omega) h hv hN
                    have e5:qcv n (emL x)=some (true,0):=by
                      have q0:=q13o h (emL x) (by omega)
                      rw [hv,hset] at q0
                      have q1:=qxs (n:=n) h.T (emL x) (by omega) false
                      have hcl':qen n.2.1 false (emL x)=true:=hcl
                      rw [hcl'] at q1
                      unfold qcv
                      rw [q0,bnd_ok]
                      simp only [q1,bnd_ok]
                      rfl
                    have e6:=q13k (srt (q1q n N)) (emL x) f1 (fun i hi=>by have:=(f2 i hi).1; omega) (by omega)
                    have e7:(srt (q1q n N)).any (inB (emL x))=true:=by
                      refine List.any_eq_true.2 ⟨_,hrow,?_⟩
                      have hpos:=List.length_pos_iff.2 (q15d hg1 g1)
                      unfold inB
                      rw [decide_eq_true (by omega),Bool.true_and,Bool.not_eq_true',List.any_eq_false]
                      intro p hp
                      rw [q8g.2 (hsub p hp)]
                      simp
                    rw [e7] at e6
                    rw [e5,bnd_ok,e4,bnd_ok,e3,bnd_ok]
                    simp only [decide_true,Bool.not_true,cond_false,e6,bnd_ok]
                · rw [decide_eq_false hz]; rfl
end Go.Proofs.Ytjhojmninmipcaa
