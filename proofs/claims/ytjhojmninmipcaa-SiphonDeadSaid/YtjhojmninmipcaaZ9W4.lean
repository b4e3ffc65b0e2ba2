/-
  Siphon: Minimal as the reference gives it; the law SiphonMinimal.
-/
import Derived.Test.YtjhojmninmipcaaZ9W3
set_option linter.all false
namespace Go.Proofs.Ytjhojmninmipcaa
open Go.K Go.M
theorem qyy {ts:List Trans} {trap:Bool} {a b:List Int} (h:∀ x,x ∈ a ↔ x ∈ b) (ha:Closed ts trap a):Closed ts trap b:=by
  rw [qlt] at ha ⊢
  rintro t ht ⟨p,h1,h2⟩
  obtain ⟨q,h3,h4⟩:=ha t ht ⟨p,h1,(h p).2 h2⟩
  exact ⟨q,h3,(h q).1 h4⟩
theorem clo_of {n:Net} {N:Nat} {W:List Int} (hb:∀ x ∈ W,(0:Int) ≤ x ∧ x < (N:Int)) (hc:Closed n.2.1 false W):clo n N (maskN W)=true:=by
  refine qyy (fun x=>?_) hc
  constructor
  · intro hx
    have:=hb x hx
    refine qgb.2 ⟨x.toNat,by omega,?_,by omega⟩
    rw [qgu fun x hx=>(hb x hx).1,q8g,Int.toNat_of_nonneg this.1]
    exact hx
  · intro hx
    obtain ⟨p,_,h2,rfl⟩:=qgb.1 hx
    rw [qgu fun x hx=>(hb x hx).1,q8g] at h2
    exact h2
theorem q13x {W:List Int} (hb:∀ x ∈ W,(0:Int) ≤ x) (hne:W ≠ []):1 ≤ maskN W:=by
  cases W with
  | nil => exact (hne rfl).elim
  | cons x W =>
    refine Nat.pos_of_ne_zero fun hz=>?_
    have h1:(maskN (x :: W)).testBit x.toNat=true:=by
      rw [qgu hb,q8g,Int.toNat_of_nonneg (hb x List.mem_cons_self)]
      exact List.mem_cons_self
    rw [hz,Nat.zero_testBit] at h1
    cases h1
theorem q15d {N k:Nat} (h1:1 ≤ k) (hk:k < 2 ^ N):bitsL N k ≠ []:=by
  intro he
  have:k=0:=by
    refine Nat.eq_of_testBit_eq fun p=>?_
    rw [Nat.zero_testBit]
    cases h:k.testBit p with
    | false => rfl
    | true =>
      by_cases hp:p < N
      · have:(p:Int) ∈ bitsL N k:=qgb.2 ⟨p,hp,h,rfl⟩
        rw [he] at this
        cases this
      · rw [Nat.testBit_lt_two_pow (Nat.lt_of_lt_of_le hk (Nat.pow_le_pow_right (by omega) (by omega)))] at h
        cases h
  omega
end Go.Proofs.Ytjhojmninmipcaa
