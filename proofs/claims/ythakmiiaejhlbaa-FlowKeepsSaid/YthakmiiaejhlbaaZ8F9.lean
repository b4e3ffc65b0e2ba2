/-
  Flow: which places are covered; the law FlowInvariants.
-/
import Derived.Test.YthakmiiaejhlbaaZ8F8
set_option linter.all false
namespace Go.Proofs.Ythakmiiaejhlbaa
open Go.K Go.M
theorem qb8 {n:Net} (hf:FewN n) (h:(outP n).2=0):validN n=true∧largeB n=false∧1≤n.1∧n.1≤12∧n.2.1.length≤14:=by
 unfold outP at h
 cases hv:validN n with
 | false => rw [hv] at h; exact absurd (show (1:Int)=0 from h) (by decide)
 | true =>
   cases hl:largeB n with
   | true => rw [hv,hl] at h; exact absurd (show (5:Int)=0 from h) (by decide)
   | false =>
     have:=qx1 hf hl
     exact ⟨rfl,rfl,(qf8 hv).1,this.1,this.2⟩
end Go.Proofs.Ythakmiiaejhlbaa
