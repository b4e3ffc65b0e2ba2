/-
  Siphon: the law SiphonGreatest.
-/
import Derived.Test.YtjhojmninmipcaaZ4U2
set_option linter.all false
namespace Go.Proofs.Ytjhojmninmipcaa
open Go.K Go.M
theorem qk4 {N:Int} {l:List Int}:setB N l=true↔(∀ x∈l,0≤x∧x < N)∧l.Pairwise (· < ·):=by
 unfold setB
 rw [List.all_eq_true]
 constructor
 · intro h
   have hq:∀ i,i < l.length→(0≤l.getD i 0∧l.getD i 0 < N)∧(0 < i→l.getD (i - 1) 0 < l.getD i 0):=fun i hi=>by
     have:=h i (List.mem_range.2 hi)
     unfold badQ at this
     simp only [Bool.not_eq_true',Bool.or_eq_false_iff,Bool.and_eq_false_iff,decide_eq_false_iff_not] at this
     refine ⟨by omega,fun h0=>?_⟩
     rcases this.2 with h1 | h1
     · exact absurd h0 h1
     · omega
   refine ⟨fun x hx=>?_,List.pairwise_iff_getElem.2 fun i j hi hj hij=>?_⟩
   · obtain ⟨i,hi,rfl⟩:=qjh 0 hx
     exact (hq i hi).1
   · have key:∀ d,∀ j,j=i+1+d→j < l.length→l.getD i 0 < l.getD j 0:=by
       intro d
       induction d with
       | zero => intro j hj hl; subst hj; exact (hq (i+1) hl).2 (by omega)
       | succ d ih =>
         intro j hj hl
         have h1:=ih (i+1+d) rfl (by omega)
         have h2:=(hq j hl).2 (by omega)
         rw [show j - 1=i+1+d by omega] at h2
         omega
     have:=key (j - i - 1) j (by omega) hj
     rwa [qbk l i 0 hi,qbk l j 0 hj] at this
 · rintro ⟨h1,h2⟩ i hi
   have hi:=List.mem_range.1 hi
   have hb:=h1 _ (qt 0 hi)
   unfold badQ
   simp only [Bool.not_eq_true',Bool.or_eq_false_iff,Bool.and_eq_false_iff,decide_eq_false_iff_not]
   refine ⟨by omega,?_⟩
   by_cases h0:0 < i
   · right
     have:=List.pairwise_iff_getElem.1 h2 (i - 1) i (by omega) hi (by omega)
     rw [qbk l i 0 hi,qbk l (i - 1) 0 (by omega)]
     omega
   · exact .inl h0
theorem qw6 (l:List Int) (h:l.length≤1000000):q1m l=some l:=by
 unfold q1m q5c
 simp (disch:=omega) only [List.nil_append,ckB_ix,qa,q6,qb,ckB_mk,ckB_ne,bif_lt,qf,bif_le,qc,bif_eq,qe,bif_ne,q9,qd,q4,q0,bnd_ok,lk_inl,lk_inr,Int.toNat_natCast,decide_true]
end Go.Proofs.Ytjhojmninmipcaa
