/-
  Freechoice: is a net's space whole.
-/
import Derived.Test.YtclbndfjhjladaaGreatZ5PE2
set_option linter.all false
namespace Go.Proofs.YtclbndfjhjladaaGreat
open Go.K Go.M
theorem qyh{l:List Int}{s:Nat}{v:Int}(hs:s<l.length)(j:Nat):(l.set s v).getD j 0=if j=s then v else l.getD j 0:=by
 rw[List.getD_eq_getElem?_getD,List.getElem?_set];by_cases e:s=j
 ·rw[if_pos e,if_pos e.symm,if_pos hs];rfl
 ·rw[if_neg e,if_neg fun h=>e h.symm,List.getD_eq_getElem?_getD]
end Go.Proofs.YtclbndfjhjladaaGreat
