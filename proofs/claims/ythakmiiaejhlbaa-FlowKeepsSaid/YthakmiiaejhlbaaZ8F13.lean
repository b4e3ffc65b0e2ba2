/-
  Flow: the reversed net has the same minimal invariants; minimal lists; the law FlowMinimal.
-/
import Derived.Test.YthakmiiaejhlbaaZ8F12
set_option linter.all false
namespace Go.Proofs.Ythakmiiaejhlbaa
open Go.K Go.M
theorem q158 {x y:List Int} {n:Nat} (hx:x.length=n) (hy:y.length=n) (h:EqN n (fn x) (fn y)):x=y:=by
 refine List.ext_getElem (by omega) fun i h1 h2=>?_
 have:=h i (by omega)
 unfold fn at this
 rw [qb3 x i 0 h1,qb3 y i 0 h2] at this
 exact this
theorem qvw {N:Int} {y:List Int} (hy:(y.length:Int)=N) (hb:∀ i,0≤y.getD i 0∧y.getD i 0≤1048576):numB N y=true:=by
 unfold numB
 rw [decide_eq_true hy,Bool.true_and,Bool.not_eq_true',List.any_eq_false]
 intro k hk
 obtain ⟨i,hi,rfl⟩:=ql9 0 hk
 have:=hb i
 unfold badK
 simp only [Bool.or_eq_true,decide_eq_true_eq,not_or]
 omega
end Go.Proofs.Ythakmiiaejhlbaa
