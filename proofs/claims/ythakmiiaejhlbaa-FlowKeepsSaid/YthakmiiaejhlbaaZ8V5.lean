/-
  Sorting rows of numbers: broken patterns, the rounds, the whole.
-/
import Derived.Test.YthakmiiaejhlbaaZ8V4
import Derived.KernelRfl
set_option linter.all false
namespace Go.Proofs.Ythakmiiaejhlbaa
open Go.K Go.M
def allN (f:Nat→Bool):Nat→Bool
 | 0 => true
 | n + 1 => f n&&allN f n
theorem q110 {f:Nat→Bool}:∀ {n:Nat},allN f n=true→∀ x,x < n→f x=true
 | n + 1, h, x, hx => by
   simp only [allN,Bool.and_eq_true] at h
   rcases Nat.lt_or_ge x n with h' | h'
   · exact q110 h.2 x h'
   · obtain rfl:x=n:=by omega
     exact h.1
def tabOk (B:ByteArray) (q:Nat):Bool:=decide (((ByteArray.data B).getD q 0).toNat≤8)&&(decide (q=0)||decide (2 ^ ((ByteArray.data B).getD q 0).toNat≤2*q))
theorem q149:allN (tabOk bytes0) 256=true:=by kernel_rfl
theorem tab_at (q:Nat) (h:q < 256):((ByteArray.data bytes0).getD q 0).toNat≤8∧(1≤q→2 ^ ((ByteArray.data bytes0).getD q 0).toNat≤2*q):=by
 have:=q110 q149 q h
 generalize bytes0=B at this ⊢
 unfold tabOk at this
 simp only [Bool.and_eq_true,Bool.or_eq_true,decide_eq_true_eq] at this
 exact ⟨this.1,fun h1=>this.2.resolve_left (by omega)⟩
theorem q14i:ByteArray.size bytes0=256:=by kernel_rfl
theorem wrap8 (n:Nat) (h:n < 256):IntKind.wrap .u8 (n:Int)=(n:Int):=by
 simp [IntKind.wrap,IntKind.bits,IntKind.signed]
 omega
theorem wrapU (n:Nat) (h:n < 2 ^ 64):IntKind.wrap .u64 (n:Int)=(n:Int):=by
 simp [IntKind.wrap,IntKind.bits,IntKind.signed]
 omega
theorem len_eq (n:Nat) (h:n < 20000):∃ L:Nat,ql1 (IntKind.wrap .u64 (n:Int))=some (L:Int)∧L≤16∧(1≤n→2 ^ L≤2*n):=by
 rw [wrapU n (by omega)]
 have hs:=q14i
 have ht:=tab_at
 unfold ql1 qpk qco qj0
 generalize bytes0=B at hs ht ⊢
 by_cases h1:256≤n
 · have e1:shrI .u64 (n:Int) 8=((n / 256:Nat):Int):=by
     unfold shrI
     rw [show min (Int.toNat 8) IntKind.u64.bits=8 by decide]
     rw [show ((2:Int) ^ 8)=((256:Nat):Int) by decide,Int.fdiv_eq_ediv_of_nonneg _ (by omega)]
     rfl
   have hq:n / 256 < 256:=by omega
   have e2:=wrap8 (n / 256) hq
   obtain ⟨t1,t2⟩:=ht (n / 256) hq
   generalize hT:((ByteArray.data B).getD (n / 256) 0).toNat=T at t1 t2
   refine ⟨8+T,?_,by omega,fun _=>?_⟩
   · have d:(decide ((0:Int)≤8))=true:=by decide
     simp (disch:=omega) only [e1,e2,hT,d,q9w,ckB_ix,q6,q5,qc,ckB_mk,ckB_ne,bif_lt,q8,bif_le,qa,bif_eq,q9,bif_ne,q7,qb,q4,q0,bnd_ok,lk_inl,lk_inr,Int.toNat_natCast,decide_true]
     exact congrArg some (by omega)
   · have:=t2 (by omega)
     rw [Nat.pow_add]
     omega
 · have hq:n < 256:=by omega
   have e2:=wrap8 n hq
   obtain ⟨t1,t2⟩:=ht n hq
   generalize hT:((ByteArray.data B).getD n 0).toNat=T at t1 t2
   refine ⟨T,?_,by omega,t2⟩
   simp (disch:=omega) only [e2,hT,ckB_ix,q6,q5,qc,ckB_mk,ckB_ne,bif_lt,q8,bif_le,qa,bif_eq,q9,bif_ne,q7,qb,q4,q0,bnd_ok,lk_inl,lk_inr,Int.toNat_natCast,decide_true]
   exact congrArg some (by omega)
theorem q10y {n:Nat} (h:n < 64):shlI .u64 1 (n:Int)=((2 ^ n:Nat):Int):=by
 have hp:2 ^ n < 2 ^ 64:=Nat.pow_lt_pow_right (by omega) h
 unfold shlI
 rw [show min (Int.toNat (n:Int)) IntKind.u64.bits=n by simp [IntKind.bits]; omega,show ((1:Int)*2 ^ n)=((2 ^ n:Nat):Int) by simp]
 exact wrapU _ hp
theorem npo_eq (n:Nat) (h1:1≤n) (h:n < 20000):∃ L:Nat,q79 (n:Int)=some ((2 ^ L:Nat):Int)∧L≤16∧2 ^ L≤2*n:=by
 obtain ⟨L,e,hL,h2⟩:=len_eq n h
 refine ⟨L,?_,hL,h2 h1⟩
 unfold q79
 rw [e,bnd_ok,q7g (decide_eq_true (Int.natCast_nonneg L)),q10y (by omega)]
theorem q15x (x:Int) (L:Nat) (hL:L≤16):∃ v:Nat,bitI .and .u64 x (IntKind.wrap .u64 (((2 ^ L:Nat):Int) - 1))=(v:Int)∧v < 2 ^ L:=by
 have hp:2 ^ L≤2 ^ 16:=Nat.pow_le_pow_right (by omega) hL
 have h0:1≤2 ^ L:=Nat.one_le_two_pow
 generalize 2 ^ L=q at hp h0
 rw [show ((q:Int) - 1)=((q - 1:Nat):Int) by omega,wrapU _ (by omega)]
 unfold bitI
 simp only []
 rw [show IntKind.u64.bits=64 from rfl,BitVec.toNat_and]
 have hb:(BitVec.ofInt 64 ((q - 1:Nat):Int)).toNat=q - 1:=by
   rw [BitVec.toNat_ofInt]
   omega
 rw [hb]
 have hle:=Nat.and_le_right (n:=(BitVec.ofInt 64 x).toNat) (m:=q - 1)
 generalize (BitVec.ofInt 64 x).toNat &&& (q - 1)=v at hle
 exact ⟨v,wrapU v (by omega),by omega⟩
theorem q15w (a b L:Nat) (d:Rw) (hd:Sh d) (hab:a+8≤b) (hb:b≤d.length) (hl:d.length≤1000000) (hL:2 ^ L≤2*(b - a)) (hL2:L≤16) (rnd:Int) :
   ∃ o,q73 (a:Int) ((b:Int) - (a:Int)) ((2 ^ L:Nat):Int) (((a+(b - a) / 4*2 - 1:Nat):Int),d,rnd)=some o∧(match o with | .inl d'=>Sort.PermIn a b d.toArray d'.toArray | .inr _=>False):=by
 have hq:Int.tdiv ((b:Int) - (a:Int)) 4=(((b - a) / 4:Nat):Int):=by
   rw [show (b:Int) - (a:Int)=((b - a:Nat):Int) by omega,Int.tdiv_eq_ediv_of_nonneg (by omega)]
   rfl
 have k2:(a:Int)+(((b - a) / 4:Nat):Int)*2=((a+(b - a) / 4*2:Nat):Int):=by omega
 refine q3e (fun (st:Int×Rw×Int)=>∃ k:Nat,st.1=(k:Int)∧a+(b - a) / 4*2 - 1≤k∧Sort.PermIn a b d.toArray st.2.1.toArray) (fun st=>(((a+(b - a) / 4*2+2:Nat):Int) - st.1).toNat) (fun (o:Rw⊕Rw)=>match o with | .inl d'=>Sort.PermIn a b d.toArray d'.toArray | .inr _=>False) _ ⟨_,rfl,Nat.le_refl _,Sort.permIn_refl _ _ _⟩ (by show (((a+(b - a) / 4*2+2:Nat):Int) - ((a+(b - a) / 4*2 - 1:Nat):Int)).toNat < many; unfold many; omega) ?_
 rintro ⟨_,c,r⟩ ⟨k,rfl,hk,hp⟩
 have hp:Sort.PermIn a b d.toArray c.toArray:=hp
 have hc:Sh c:=qfl hd hb hp
 have hcl:c.length=d.length:=q8a hp
 by_cases hin:k≤a+(b - a) / 4*2+1
 · obtain ⟨v,hr⟩:∃ v,qba r=some v:=⟨_,rfl⟩
   obtain ⟨u,hu,hu2⟩:=q15x v.1 L hL2
   have hkb:k < b:=by omega
   have hin':(k:Int)≤((a+(b - a) / 4*2:Nat):Int)+1:=by omega
   by_cases hv:b - a≤u
   · have k5:(a:Int)+((u:Int) - ((b:Int) - (a:Int)))=((a+(u - (b - a)):Nat):Int):=by omega
     have hvi:(b:Int) - (a:Int)≤(u:Int):=by omega
     have ho:a+(u - (b - a)) < b:=by omega
     have hpp:=Sort.permIn_trans _ _ _ a b hp (Sort.swp_permIn c.toArray a b k (a+(u - (b - a))) (by omega) hkb (by omega) ho (by simpa using (by omega)))
     rw [q2w] at hpp
     refine ⟨.next (((k+1:Nat):Int),swL c k (a+(u - (b - a))),v.2),?_,⟨k+1,rfl,by omega,hpp⟩,by show (((a+(b - a) / 4*2+2:Nat):Int) - ((k+1:Nat):Int)).toNat < (((a+(b - a) / 4*2+2:Nat):Int) - (k:Int)).toNat; omega⟩
     simp only [q18,hr,bnd_ok,hu,hq,k2,k5,Int.toNat_natCast,qay,List.length_set]
     simp (disch:=omega) only [ckB_ix,q6,q5,qc,ckB_mk,ckB_ne,bif_lt,q8,bif_le,qa,bif_eq,q9,bif_ne,q7,qb,q4,q0,bnd_ok,lk_inl,lk_inr,Int.toNat_natCast,decide_true]
     rw [qg]
   · have k5:(a:Int)+(u:Int)=((a+u:Nat):Int):=by omega
     have hvi:¬ (b:Int) - (a:Int)≤(u:Int):=by omega
     have ho:a+u < b:=by omega
     have hpp:=Sort.permIn_trans _ _ _ a b hp (Sort.swp_permIn c.toArray a b k (a+u) (by omega) hkb (by omega) ho (by simpa using (by omega)))
     rw [q2w] at hpp
     refine ⟨.next (((k+1:Nat):Int),swL c k (a+u),v.2),?_,⟨k+1,rfl,by omega,hpp⟩,by show (((a+(b - a) / 4*2+2:Nat):Int) - ((k+1:Nat):Int)).toNat < (((a+(b - a) / 4*2+2:Nat):Int) - (k:Int)).toNat; omega⟩
     simp only [q18,hr,bnd_ok,hu,hq,k2,k5,Int.toNat_natCast,qay,List.length_set]
     simp (disch:=omega) only [ckB_ix,q6,q5,qc,ckB_mk,ckB_ne,bif_lt,q8,bif_le,qa,bif_eq,q9,bif_ne,q7,qb,q4,q0,bnd_ok,lk_inl,lk_inr,Int.toNat_natCast,decide_true]
     rw [qg]
 · refine ⟨.done c,?_,hp⟩
   have hin':¬ (k:Int)≤((a+(b - a) / 4*2:Nat):Int)+1:=by omega
   simp only [q18,hq,k2]
   simp (disch:=omega) only [ckB_ix,q6,q5,qc,ckB_mk,ckB_ne,bif_lt,q8,bif_le,qa,bif_eq,q9,bif_ne,q7,qb,q4,q0,bnd_ok,lk_inl,lk_inr,Int.toNat_natCast,decide_true]
theorem bp_eq (a b:Nat) (d:Rw) (hd:Sh d) (hab:a≤b) (hb:b≤d.length) (hl:d.length < 20000) :
   ∃ d',q1m (a:Int) (b:Int) d=some d'∧Sort.PermIn a b d.toArray d'.toArray:=by
 unfold q1m
 rw [q6 (by omega) (by omega)]
 by_cases h:a+8≤b
 · have hq:Int.tdiv ((b:Int) - (a:Int)) 4=(((b - a) / 4:Nat):Int):=by
     rw [show (b:Int) - (a:Int)=((b - a:Nat):Int) by omega,Int.tdiv_eq_ediv_of_nonneg (by omega)]
     rfl
   have k2:(a:Int)+(((b - a) / 4:Nat):Int)*2=((a+(b - a) / 4*2:Nat):Int):=by omega
   have k3:((a+(b - a) / 4*2:Nat):Int) - 1=((a+(b - a) / 4*2 - 1:Nat):Int):=by omega
   obtain ⟨L,e,hL,h2⟩:=npo_eq (b - a) (by omega) (by omega)
   rw [show ((b - a:Nat):Int)=(b:Int) - (a:Int) by omega] at e
   obtain ⟨o,ho,hp⟩:=q15w a b L d hd h hb (by omega) h2 hL (IntKind.wrap .u64 ((b:Int) - (a:Int)))
   have h8:(8:Int)≤(b:Int) - (a:Int):=by omega
   cases o with
   | inr _ => cases hp
   | inl d' =>
     refine ⟨d',?_,hp⟩
     simp only [e,bnd_ok,hq,k2,k3,ho,lk_inl]
     simp (disch:=omega) only [ckB_ix,q6,q5,qc,ckB_mk,ckB_ne,bif_lt,q8,bif_le,qa,bif_eq,q9,bif_ne,q7,qb,q4,q0,bnd_ok,lk_inl,lk_inr,Int.toNat_natCast,decide_true]
 · have h8:¬ (8:Int)≤(b:Int) - (a:Int):=by omega
   refine ⟨d,?_,Sort.permIn_refl _ _ _⟩
   simp (disch:=omega) only [ckB_ix,q6,q5,qc,ckB_mk,ckB_ne,bif_lt,q8,bif_le,qa,bif_eq,q9,bif_ne,q7,qb,q4,q0,bnd_ok,lk_inl,lk_inr,Int.toNat_natCast,decide_true]
end Go.Proofs.Ythakmiiaejhlbaa
