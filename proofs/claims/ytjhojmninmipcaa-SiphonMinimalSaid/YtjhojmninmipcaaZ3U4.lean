/-
  Siphon: firing and runs; the law SiphonStays.
-/
import Derived.Test.YtjhojmninmipcaaZ3U3
set_option linter.all false
namespace Go.Proofs.Ytjhojmninmipcaa
open Go.K Go.M
def tokB (k:Int):Bool:=decide (k < 0) || decide (100 < k)
def markB (N:Int) (m:List Int):Bool:=decide ((m.length:Int)=N) && !m.any tokB
theorem q10x {n:Net} (hv:validN n=true) {t:Trans} (ht:t ∈ n.2.1):setB n.1 t.2.1=true ∧ setB n.1 t.2.2.1=true:=by
  unfold validN at hv
  simp only [Bool.and_eq_true,Bool.not_eq_true'] at hv
  have:=List.any_eq_false.1 hv.1.1.2 t ht
  unfold badT at this
  simp only [Bool.or_eq_true,Bool.not_eq_true',not_or,Bool.not_eq_false] at this
  exact ⟨this.1.2,this.2⟩
structure Fired (n:Net) (m:List Int) (t:Trans) (x:List Int):Prop where
  mem:t ∈ n.2.1
  can:∀ p ∈ t.2.1,1 ≤ m.getD p.toNat 0
  len:x.length=m.length
  at_:∀ q:Nat,x.getD q 0=m.getD q 0 + (if (q:Int) ∈ t.2.1 then -1 else 0) + (if (q:Int) ∈ t.2.2.1 then 1 else 0)
  mark:markB n.1 x=true
end Go.Proofs.Ytjhojmninmipcaa
