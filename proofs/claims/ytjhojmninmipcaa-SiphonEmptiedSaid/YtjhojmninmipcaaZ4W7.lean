/-
  Siphon: firing in full, keys of markings, markings that were met.
-/
import Derived.Test.YtjhojmninmipcaaZ4W5
set_option linter.all false
namespace Go.Proofs.Ytjhojmninmipcaa
open Go.K Go.M
def fireN (T:Trans) (m:List Int):List Int:=addL 1 T.2.2.1 (addL (-1) T.2.1 m)
def fireP (n:Net) (m:List Int) (t:Nat):Int×List Int :=
 bif canB (n.2.1.getD t Trans.z) m then (bif (fireN (n.2.1.getD t Trans.z) m).any (fun k=>decide (100 < k)) then (5,[]) else (0,fireN (n.2.1.getD t Trans.z) m)) else (12,[])
structure FireF (n:Net) (m:List Int) (T:Trans):Prop where
 i1:∀ p∈T.2.1,0≤p∧p < m.length
 s1:T.2.1.Pairwise (· < ·)
 i2:∀ p∈T.2.2.1,0≤p∧p < m.length
 s2:T.2.2.1.Pairwise (· < ·)
 l1:T.2.1.length≤50
 l2:T.2.2.1.length≤50
 mb:∀ i,i < m.length→0≤m.getD i 0∧m.getD i 0≤100
 ml:(m.length:Int)=n.1
 N:1≤n.1∧n.1≤40
theorem fireF {n:Net} (h:Small n) (hv:validN n=true) {m:List Int} (hm:markB n.1 m=true) {t:Nat} (ht:t < n.2.1.length):FireF n m (n.2.1.getD t Trans.z):=by
 obtain ⟨hml,hmb⟩:=q9p.1 hm
 have hN:1≤n.1∧n.1≤40:=by
   unfold validN at hv
   simp only [Bool.and_eq_true,decide_eq_true_eq] at hv
   exact hv.1.1.1.1
 have hmem:n.2.1.getD t Trans.z∈n.2.1:=qt Trans.z ht
 obtain ⟨hs1,hs2⟩:=qsu hv hmem
 have hi:=h.ins _ hmem
 have ho:=h.outs _ hmem
 obtain ⟨hb1,hp1⟩:=qk4.1 hs1
 obtain ⟨hb2,hp2⟩:=qk4.1 hs2
 exact ⟨fun p hp=>by have:=hb1 p hp; omega,hp1,fun p hp=>by have:=hb2 p hp; omega,hp2,hi,ho,hmb,hml,hN⟩
section
variable {n:Net} {m:List Int} {T:Trans} (F:FireF n m T)
include F
theorem FireF.len1:(addL (-1) T.2.1 m).length=m.length:=qax _ _ _
theorem FireF.len:(fireN T m).length=m.length:=(qax _ _ _).trans (qax _ _ _)
theorem FireF.at1 (q:Nat):(addL (-1) T.2.1 m).getD q 0=m.getD q 0+(if (q:Int)∈T.2.1 then -1 else 0):=qgh (-1) T.2.1 m F.s1 F.i1 q
theorem FireF.i2':∀ p∈T.2.2.1,0≤p∧p < (addL (-1) T.2.1 m).length:=fun p hp=>by have:=F.i2 p hp; have:=F.len1; omega
theorem FireF.at_ (q:Nat):(fireN T m).getD q 0=m.getD q 0+(if (q:Int)∈T.2.1 then -1 else 0)+(if (q:Int)∈T.2.2.1 then 1 else 0):=by
 have:=qgh 1 T.2.2.1 (addL (-1) T.2.1 m) F.s2 F.i2' q
 unfold fireN
 rw [this,F.at1]
theorem FireF.can (hc:canB T m=true):∀ p∈T.2.1,1≤m.getD p.toNat 0:=fun p hp=>by
 unfold canB at hc
 rw [Bool.not_eq_true',List.any_eq_false] at hc
 have hpb:=F.i1 p hp
 have:=F.mb p.toNat (by omega)
 have:¬ m.getD p.toNat 0=0:=by simpa using hc p hp
 omega
theorem FireF.nn (hc:canB T m=true) (i:Nat) (hi:i < m.length):0≤(fireN T m).getD i 0∧(fireN T m).getD i 0≤101:=by
 rw [F.at_]
 have h5:=F.mb i hi
 by_cases hin:(i:Int)∈T.2.1
 · have:=F.can hc _ hin
   rw [Int.toNat_natCast] at this
   rw [if_pos hin]
   split<;>omega
 · rw [if_neg hin]
   split<;>omega
end
theorem qsj {n:Net} (h:Small n) (hv:validN n=true) {m:List Int} (hm:markB n.1 m=true) {t:Nat} (ht:t < n.2.1.length) (h0:(fireP n m t).1=0):markB n.1 (fireP n m t).2=true:=by
 have F:=fireF h hv hm ht
 unfold fireP at h0 ⊢
 cases hc:canB (n.2.1.getD t Trans.z) m with
 | false => rw [hc] at h0; exact absurd (show (12:Int)=0 from h0) (by decide)
 | true =>
   rw [hc] at h0
   cases ha:(fireN (n.2.1.getD t Trans.z) m).any (fun k=>decide (100 < k)) with
   | true => rw [ha] at h0; exact absurd (show (5:Int)=0 from h0) (by decide)
   | false =>
     show markB n.1 (fireN (n.2.1.getD t Trans.z) m)=true
     refine q9p.2 ⟨by rw [F.len]; exact F.ml,fun i hi=>?_⟩
     rw [F.len] at hi
     have h1:=F.nn hc i hi
     rw [List.any_eq_false] at ha
     have h2:=ha _ (qt 0 (show i < (fireN (n.2.1.getD t Trans.z) m).length by rw [F.len]; exact hi))
     have h2:¬ (100:Int) < (fireN (n.2.1.getD t Trans.z) m).getD i 0:=by simpa using h2
     omega
theorem q11m {n:Net} (h:Small n) (hv:validN n=true) {m:List Int} (hm:markB n.1 m=true) {t:Nat} (ht:t < n.2.1.length):qbi n m (t:Int)=some (fireP n m t):=by
 have F:=fireF h hv hm ht
 have hN:=F.N
 have hml:=F.ml
 have hp:q7t n m=some true:=by rw [ql6 h m (by omega),hv,hm]; rfl
 unfold qbi qo0 fireP
 rw [hp,Int.toNat_natCast]
 generalize n.2.1.getD t Trans.z=T at F
 have e1:=qt0 T m (by have:=F.l1; omega) F.i1
 cases hc:canB T m with
 | false =>
   rw [hc] at e1
   simp (disch:=omega) only [e1,Bool.not_true,Bool.not_false,ckB_ix,qa,q6,qb,ckB_mk,ckB_ne,bif_lt,qf,bif_le,qc,bif_eq,qe,bif_ne,q9,qd,q4,q0,bnd_ok,lk_inl,lk_inr,Int.toNat_natCast,decide_true]
 | true =>
   rw [hc] at e1
   have e2:=qzu T.1 T.2.1 T.2.2.1 m (by have:=F.l1; omega) F.s1 F.i1 (fun i hi=>by have:=F.mb i hi; omega)
   have hlen1:=F.len1
   have e3:=q102 T.2.2.1 (addL (-1) T.2.1 m) (by have:=F.l2; omega) F.s2 F.i2' (fun i hi=>by
     have:=F.mb i (by omega)
     rw [F.at1 i]
     split<;>omega)
   have hlen:=F.len
   have hlen':(addL 1 T.2.2.1 (addL (-1) T.2.1 m)).length=m.length:=F.len
   obtain ⟨M,e4,hM1,i,hM2,hM3⟩:=Max_eq (addL 1 T.2.2.1 (addL (-1) T.2.1 m)) (by omega) (by omega)
   have e5:=qw6 m (by omega)
   by_cases hM:(100:Int) < M
   · have ha:(fireN T m).any (fun k=>decide (100 < k))=true:=List.any_eq_true.2 ⟨_,qt 0 hM2,by have e:(fireN T m).getD i 0=M:=hM3; rw [e]; exact decide_eq_true hM⟩
     rw [ha]
     simp (disch:=omega) only [e1,e5,e2,e3,e4,Bool.not_true,ckB_ix,qa,q6,qb,ckB_mk,ckB_ne,bif_lt,qf,bif_le,qc,bif_eq,qe,bif_ne,q9,qd,q4,q0,bnd_ok,lk_inl,lk_inr,Int.toNat_natCast,decide_true]
   · have ha:(fireN T m).any (fun k=>decide (100 < k))=false:=List.any_eq_false.2 fun k hk=>by
       obtain ⟨j,hj,rfl⟩:=qjh 0 hk
       have:=hM1 j hj
       have hh:¬ (100:Int) < (fireN T m).getD j 0:=by show ¬ (100:Int) < (addL 1 T.2.2.1 (addL (-1) T.2.1 m)).getD j 0; omega
       simpa using hh
     rw [ha]
     simp (disch:=omega) only [e1,e5,e2,e3,e4,Bool.not_true,ckB_ix,qa,q6,qb,ckB_mk,ckB_ne,bif_lt,qf,bif_le,qc,bif_eq,qe,bif_ne,q9,qd,q4,q0,bnd_ok,lk_inl,lk_inr,Int.toNat_natCast,decide_true]
     rfl
theorem q10g {n:Net} {m:List Int} {t:Nat} (ht:t < n.2.1.length) (F:FireF n m (n.2.1.getD t Trans.z)):qkr n m (t:Int)=some (canB (n.2.1.getD t Trans.z) m):=by
 have hl:=F.l1
 have hL:qr9 m (t:Int) n.1 n.2.1 n.2.2.1 n.2.2.2.1 0=some (bif (n.2.1.getD t Trans.z).2.1.any (fun p=>decide (m.getD p.toNat 0=0)) then .inr false else .inl ()):=by
   refine qf3 (n.2.1.getD t Trans.z).2.1 0 (fun p=>decide (m.getD p.toNat 0=0)) false (by omega) (fun i hi=>?_) ?_
   · have hb:=F.i1 _ (qt 0 hi)
     have hq:=F.mb ((n.2.1.getD t Trans.z).2.1.getD i 0).toNat (by omega)
     by_cases h0:m.getD ((n.2.1.getD t Trans.z).2.1.getD i 0).toNat 0=0
     · rw [decide_eq_true h0]
       simp (disch:=omega) only [qb9,ckB_ix,qa,q6,qb,ckB_mk,ckB_ne,bif_lt,qf,bif_le,qc,bif_eq,qe,bif_ne,q9,qd,q4,q0,bnd_ok,lk_inl,lk_inr,Int.toNat_natCast,decide_true]
     · rw [decide_eq_false h0]
       simp (disch:=omega) only [qb9,ckB_ix,qa,q6,qb,ckB_mk,ckB_ne,bif_lt,qf,bif_le,qc,bif_eq,qe,bif_ne,q9,qd,q4,q0,bnd_ok,lk_inl,lk_inr,Int.toNat_natCast,decide_true]
       rw [qm]
   · simp (disch:=omega) only [qb9,ckB_ix,qa,q6,qb,ckB_mk,ckB_ne,bif_lt,qf,bif_le,qc,bif_eq,qe,bif_ne,q9,qd,q4,q0,bnd_ok,lk_inl,lk_inr,Int.toNat_natCast,decide_true]
 unfold qkr canB
 rw [hL,bnd_ok]
 cases (n.2.1.getD t Trans.z).2.1.any (fun p=>decide (m.getD p.toNat 0=0))<;>rfl
theorem quk (c:Int) (l:List Int) (i:Nat) (hi:i < l.length) (m:List Int):addL c (l.take (i+1)) m=(addL c (l.take i) m).set (l.getD i 0).toNat ((addL c (l.take i) m).getD (l.getD i 0).toNat 0+c):=by
 unfold addL
 rw [qbf l i 0 hi,List.foldl_append]
 rfl
theorem qyp {l:List Int} (h:l.Pairwise (· < ·)) (i:Nat):(l.take i).Pairwise (· < ·):=h.sublist (List.take_sublist i l)
theorem qz9 {n:Net} (h:Small n) (hv:validN n=true) {m:List Int} (hm:markB n.1 m=true) {t:Nat} (ht:t < n.2.1.length):qf9 n m (t:Int)=some (fireP n m t):=by
 have F:=fireF h hv hm ht
 have hN:=F.N
 have hml:=F.ml
 have hvv:=qr5 h
 have hmm:=qhq n m (by omega)
 rw [hv] at hvv
 rw [hm] at hmm
 have ec:=q10g ht F
 unfold qf9 fireP
 cases hc:canB (n.2.1.getD t Trans.z) m with
 | false =>
   rw [hc] at ec
   simp (disch:=omega) only [hvv,hmm,ec,Bool.not_true,Bool.not_false,ckB_ix,qa,q6,qb,ckB_mk,ckB_ne,bif_lt,qf,bif_le,qc,bif_eq,qe,bif_ne,q9,qd,q4,q0,bnd_ok,lk_inl,lk_inr,Int.toNat_natCast,decide_true]
 | true =>
   rw [hc] at ec
   have hl1:=F.l1
   have hl2:=F.l2
   have h0:qq1 (t:Int) n.1 n.2.1 n.2.2.1 n.2.2.2.1 (0,m)=some (.inl (addL (-1) (n.2.1.getD t Trans.z).2.1 m)):=by
     have e:addL (-1) (n.2.1.getD t Trans.z).2.1 m=addL (-1) ((n.2.1.getD t Trans.z).2.1.take (n.2.1.getD t Trans.z).2.1.length) m:=by rw [List.take_length]
     rw [e]
     refine qg5 (fun i:Nat=>((i:Int),addL (-1) ((n.2.1.getD t Trans.z).2.1.take i) m)) (n.2.1.getD t Trans.z).2.1.length (q5u (by omega)) _ (fun i hi=>?_) ?_ _ rfl
     · have hb:=F.i1 _ (qt 0 hi)
       have hq:=F.mb ((n.2.1.getD t Trans.z).2.1.getD i 0).toNat (by omega)
       have hlen:(addL (-1) ((n.2.1.getD t Trans.z).2.1.take i) m).length=m.length:=qax _ _ _
       have hat:=qgh (-1) ((n.2.1.getD t Trans.z).2.1.take i) m (qyp F.s1 i) (fun p hp=>F.i1 p (List.mem_of_mem_take hp)) ((n.2.1.getD t Trans.z).2.1.getD i 0).toNat
       have hbd : -1≤(addL (-1) ((n.2.1.getD t Trans.z).2.1.take i) m).getD ((n.2.1.getD t Trans.z).2.1.getD i 0).toNat 0∧(addL (-1) ((n.2.1.getD t Trans.z).2.1.take i) m).getD ((n.2.1.getD t Trans.z).2.1.getD i 0).toNat 0≤100:=by
         rw [hat]
         split<;>omega
       rw [quk (-1) _ i hi]
       simp (disch:=omega) only [qcu,hlen,ckB_ix,qa,q6,qb,ckB_mk,ckB_ne,bif_lt,qf,bif_le,qc,bif_eq,qe,bif_ne,q9,qd,q4,q0,bnd_ok,lk_inl,lk_inr,Int.toNat_natCast,decide_true]
       rw [qm]
       rfl
     · simp (disch:=omega) only [qcu,ckB_ix,qa,q6,qb,ckB_mk,ckB_ne,bif_lt,qf,bif_le,qc,bif_eq,qe,bif_ne,q9,qd,q4,q0,bnd_ok,lk_inl,lk_inr,Int.toNat_natCast,decide_true]
   have h1:qpp (t:Int) n.1 n.2.1 n.2.2.1 n.2.2.2.1 (0,addL (-1) (n.2.1.getD t Trans.z).2.1 m)=some (.inl (fireN (n.2.1.getD t Trans.z) m)):=by
     have e:fireN (n.2.1.getD t Trans.z) m=addL 1 ((n.2.1.getD t Trans.z).2.2.1.take (n.2.1.getD t Trans.z).2.2.1.length) (addL (-1) (n.2.1.getD t Trans.z).2.1 m):=by rw [List.take_length]; rfl
     have hl0:=F.len1
     rw [e]
     refine qg5 (fun i:Nat=>((i:Int),addL 1 ((n.2.1.getD t Trans.z).2.2.1.take i) (addL (-1) (n.2.1.getD t Trans.z).2.1 m))) (n.2.1.getD t Trans.z).2.2.1.length (q5u (by omega)) _ (fun i hi=>?_) ?_ _ rfl
     · have hb:=F.i2 _ (qt 0 hi)
       have hq:=F.mb ((n.2.1.getD t Trans.z).2.2.1.getD i 0).toNat (by omega)
       have hlen:(addL 1 ((n.2.1.getD t Trans.z).2.2.1.take i) (addL (-1) (n.2.1.getD t Trans.z).2.1 m)).length=m.length:=(qax _ _ _).trans hl0
       have hat:=qgh 1 ((n.2.1.getD t Trans.z).2.2.1.take i) (addL (-1) (n.2.1.getD t Trans.z).2.1 m) (qyp F.s2 i) (fun p hp=>F.i2' p (List.mem_of_mem_take hp)) ((n.2.1.getD t Trans.z).2.2.1.getD i 0).toNat
       have hat1:=F.at1 ((n.2.1.getD t Trans.z).2.2.1.getD i 0).toNat
       have hbd : -1≤(addL 1 ((n.2.1.getD t Trans.z).2.2.1.take i) (addL (-1) (n.2.1.getD t Trans.z).2.1 m)).getD ((n.2.1.getD t Trans.z).2.2.1.getD i 0).toNat 0∧(addL 1 ((n.2.1.getD t Trans.z).2.2.1.take i) (addL (-1) (n.2.1.getD t Trans.z).2.1 m)).getD ((n.2.1.getD t Trans.z).2.2.1.getD i 0).toNat 0≤101:=by
         rw [hat,hat1]
         split<;>split<;>omega
       rw [quk 1 _ i hi]
       simp (disch:=omega) only [qd1,hlen,ckB_ix,qa,q6,qb,ckB_mk,ckB_ne,bif_lt,qf,bif_le,qc,bif_eq,qe,bif_ne,q9,qd,q4,q0,bnd_ok,lk_inl,lk_inr,Int.toNat_natCast,decide_true]
       rw [qm]
     · simp (disch:=omega) only [qd1,ckB_ix,qa,q6,qb,ckB_mk,ckB_ne,bif_lt,qf,bif_le,qc,bif_eq,qe,bif_ne,q9,qd,q4,q0,bnd_ok,lk_inl,lk_inr,Int.toNat_natCast,decide_true]
   have hlen:=F.len
   have h2:=qhq n (fireN (n.2.1.getD t Trans.z) m) (by omega)
   have ha:markB n.1 (fireN (n.2.1.getD t Trans.z) m)=!(fireN (n.2.1.getD t Trans.z) m).any (fun k=>decide (100 < k)):=by
     unfold markB
     rw [decide_eq_true (by omega),Bool.true_and]
     refine congrArg (!·) ?_
     rw [Bool.eq_iff_iff,List.any_eq_true,List.any_eq_true]
     constructor
     · rintro ⟨k,hk,hb⟩
       refine ⟨k,hk,?_⟩
       obtain ⟨j,hj,rfl⟩:=qjh 0 hk
       have:=F.nn hc j (by omega)
       unfold tokB at hb
       simp only [Bool.or_eq_true,decide_eq_true_eq] at hb
       exact decide_eq_true (by omega)
     · rintro ⟨k,hk,hb⟩
       exact ⟨k,hk,by unfold tokB; rw [hb,Bool.or_true]⟩
   rw [ha] at h2
   have hap:([]:List Int)++m=m:=rfl
   cases hd:(fireN (n.2.1.getD t Trans.z) m).any (fun k=>decide (100 < k)) with
   | true =>
     rw [hd] at h2
     simp (disch:=omega) only [hvv,hmm,ec,h0,h1,h2,hap,Bool.not_true,Bool.not_false,ckB_ix,qa,q6,qb,ckB_mk,ckB_ne,bif_lt,qf,bif_le,qc,bif_eq,qe,bif_ne,q9,qd,q4,q0,bnd_ok,lk_inl,lk_inr,Int.toNat_natCast,decide_true]
   | false =>
     rw [hd] at h2
     simp (disch:=omega) only [hvv,hmm,ec,h0,h1,h2,hap,Bool.not_true,Bool.not_false,ckB_ix,qa,q6,qb,ckB_mk,ckB_ne,bif_lt,qf,bif_le,qc,bif_eq,qe,bif_ne,q9,qd,q4,q0,bnd_ok,lk_inl,lk_inr,Int.toNat_natCast,decide_true]
theorem q123 {k:Int} (h0:0≤k) (h1:k≤255):IntKind.wrap .u8 k=k:=by
 unfold IntKind.wrap
 simp [IntKind.bits,IntKind.signed]
 omega
theorem key_eq {m:List Int} (hl:m.length≤1000000) (hb:∀ i,i < m.length→0≤m.getD i 0∧m.getD i 0≤255):q64 m=some (strOfNums m):=by
 have hL:qpm m (m.length:Int) (0,[])=some (.inl m):=by
   have e:m=m.take m.length:=by rw [List.take_length]
   conv=>rhs; rw [e]
   refine qg5 (fun i:Nat=>((i:Int),m.take i)) m.length (q5u (by omega)) _ (fun i hi=>?_) ?_ _ rfl
   · have hlen:(m.take i).length=i:=by rw [List.length_take]; omega
     have:=hb i hi
     have ew:=q123 this.1 this.2
     rw [qbf m i 0 hi]
     simp (disch:=omega) only [qct,hlen,ew,ckB_ix,qa,q6,qb,ckB_mk,ckB_ne,bif_lt,qf,bif_le,qc,bif_eq,qe,bif_ne,q9,qd,q4,q0,bnd_ok,lk_inl,lk_inr,Int.toNat_natCast,decide_true]
     rw [qm]
   · simp (disch:=omega) only [qct,List.take_length,ckB_ix,qa,q6,qb,ckB_mk,ckB_ne,bif_lt,qf,bif_le,qc,bif_eq,qe,bif_ne,q9,qd,q4,q0,bnd_ok,lk_inl,lk_inr,Int.toNat_natCast,decide_true]
 unfold q64
 rw [hL]
 rfl
theorem q10v {a b:List Int} (ha:∀ x∈a,0≤x∧x≤255) (hb:∀ x∈b,0≤x∧x≤255) (h:strOfNums a=strOfNums b):a=b:=by
 have h1:a.map (fun n=>UInt8.ofNat n.toNat)=b.map fun n=>UInt8.ofNat n.toNat:=by rw [← strOfNums_data,← strOfNums_data,h]
 clear h
 induction a generalizing b with
 | nil => cases b with
   | nil => rfl
   | cons y b => cases h1
 | cons x a ih =>
   cases b with
   | nil => cases h1
   | cons y b =>
     simp only [List.map_cons,List.cons.injEq] at h1
     have hx:=ha x List.mem_cons_self
     have hy:=hb y List.mem_cons_self
     have e:=congrArg UInt8.toNat h1.1
     rw [UInt8.toNat_ofNat',UInt8.toNat_ofNat'] at e
     rw [ih (fun z hz=>ha z (List.mem_cons_of_mem _ hz)) (fun z hz=>hb z (List.mem_cons_of_mem _ hz)) h1.2]
     have:x=y:=by omega
     rw [this]
theorem qst {N:Int} {m:List Int} (h:markB N m=true):∀ x∈m,0≤x∧x≤255:=fun x hx=>by
 obtain ⟨i,hi,rfl⟩:=qjh 0 hx
 have:=(q9p.1 h).2 i hi
 omega
theorem q10y {a b:ByteArray} (h:strEq a b=true):a=b:=by
 have h1:(a.data == b.data)=true:=h
 have h2:a.data=b.data:=beq_iff_eq.1 h1
 cases a
 cases b
 congr
theorem qyv (a:ByteArray):strEq a a=true:=by
 show (a.data == a.data)=true
 exact beq_self_eq_true _
theorem qeb {a b:ByteArray}:strEq a b=true↔a=b:=⟨q10y,fun h=>by rw [h]; exact qyv b⟩
theorem qva {β:Type} (k k':ByteArray) (x:β):∀ (l:List (ByteArray×β)),mfind .str k (mput .str k' x l)=bif strEq k k' then some x else mfind .str k l
 | [] => rfl
 | e :: l => by
   show mfind .str k (bif strEq k' e.1 then (k',x)::l else e::mput .str k' x l)=bif strEq k k' then some x else bif strEq k e.1 then some e.2 else mfind .str k l
   cases h:strEq k' e.1 with
   | true =>
     have he:k'=e.1:=qeb.1 h
     show (bif strEq k k' then some x else mfind .str k l)=_
     rw [← he]
     cases strEq k k'<;>rfl
   | false =>
     show (bif strEq k e.1 then some e.2 else mfind .str k (mput .str k' x l))=_
     rw [qva k k' x l]
     cases h1:strEq k e.1 with
     | false => rfl
     | true =>
       cases h2:strEq k k' with
       | false => rfl
       | true =>
         have:strEq k' e.1=true:=qeb.2 ((qeb.1 h2).symm.trans (qeb.1 h1))
         rw [this] at h
         cases h
theorem qz8 (a b:List Int) (ha:a.length≤1000000):q9x a b=some (decide (a=b)):=by
 unfold q9x
 by_cases hl:a.length=b.length
 · rw [qmh (by simp [hl])]
   have hloop:qky a b 0=some (bif (List.range a.length).all (fun i=>decide (a.getD i 0=b.getD i 0)) then .inl () else .inr false):=by
     refine qdh (fun i:Nat=>(i:Int)) a.length (q5u (by omega)) _ () false ?_ ?_ ?_
     · intro i hi hp
       have hp':a.getD i 0=b.getD i 0:=of_decide_eq_true hp
       simp (disch:=omega) only [q6z,ckB_ix,qa,q6,qb,ckB_mk,ckB_ne,bif_lt,qf,bif_le,qc,bif_eq,qe,bif_ne,q9,qd,q4,q0,bnd_ok,lk_inl,lk_inr,Int.toNat_natCast,decide_true]
       rw [qm]
     · intro i hi hp
       have hp':a.getD i 0≠b.getD i 0:=of_decide_eq_false hp
       simp (disch:=omega) only [q6z,ckB_ix,qa,q6,qb,ckB_mk,ckB_ne,bif_lt,qf,bif_le,qc,bif_eq,qe,bif_ne,q9,qd,q4,q0,bnd_ok,lk_inl,lk_inr,Int.toNat_natCast,decide_true]
     · simp (disch:=omega) only [q6z,ckB_ix,qa,q6,qb,ckB_mk,ckB_ne,bif_lt,qf,bif_le,qc,bif_eq,qe,bif_ne,q9,qd,q4,q0,bnd_ok,lk_inl,lk_inr,Int.toNat_natCast,decide_true]
   rw [hloop,bnd_ok]
   have hall:(List.range a.length).all (fun i=>decide (a.getD i 0=b.getD i 0))=decide (a=b):=by
     rw [Bool.eq_iff_iff,List.all_eq_true,decide_eq_true_iff]
     constructor
     · intro h
       refine List.ext_getElem hl fun i h1 h2=>?_
       have:=of_decide_eq_true (h i (List.mem_range.2 h1))
       rw [qbk a i 0 h1,qbk b i 0 h2] at this
       exact this
     · rintro rfl i _
       simp
   rw [hall]
   cases decide (a=b)<;>rfl
 · have:¬ a=b:=fun h=>hl (by rw [h])
   rw [qmb (by simp; omega),decide_eq_false this]
theorem q11r (l:List (List Int)) (m:List Int) (hl:l.length≤1000000) (hr:∀ x∈l,x.length≤1000000):∃ r,qip l m=some r∧(decide (r < 0)=!l.any fun x=>decide (x=m)):=by
 have hL:qpl l m 0=some (fOut (fun i=>(i:Int)) (fidx (fun x=>decide (x=m)) l)):=by
   refine qe4 l [] (fun x=>decide (x=m)) (fun i=>(i:Int)) (by omega) (fun i hi=>?_) ?_
   · have e:=qz8 (l.getD i []) m (hr _ (qt [] hi))
     simp (disch:=omega) only [qcw,e,ckB_ix,qa,q6,qb,ckB_mk,ckB_ne,bif_lt,qf,bif_le,qc,bif_eq,qe,bif_ne,q9,qd,q4,q0,bnd_ok,lk_inl,lk_inr,Int.toNat_natCast,decide_true]
     rw [qm]
     cases decide (l.getD i []=m)<;>rfl
   · simp (disch:=omega) only [qcw,ckB_ix,qa,q6,qb,ckB_mk,ckB_ne,bif_lt,qf,bif_le,qc,bif_eq,qe,bif_ne,q9,qd,q4,q0,bnd_ok,lk_inl,lk_inr,Int.toNat_natCast,decide_true]
 have h2:=qmm (fun x=>decide (x=m)) l
 refine ⟨idxI (fun x=>decide (x=m)) l,?_,?_⟩
 · unfold qip
   rw [hL,bnd_ok,qn7]
 · rw [← h2,← decide_not]
   exact decide_eq_decide.2 (by omega)
end Go.Proofs.Ytjhojmninmipcaa
