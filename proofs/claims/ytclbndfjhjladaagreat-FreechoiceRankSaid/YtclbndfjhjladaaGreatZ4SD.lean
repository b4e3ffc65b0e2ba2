/-
  Siphon: firing and runs; the law SiphonStays.
-/
import Derived.Test.YtclbndfjhjladaaGreatZ4SC
set_option linter.all false
namespace Go.Proofs.YtclbndfjhjladaaGreat
open Go.K Go.M
theorem jrk{n:ca}(hv:c6 n=true){t:af}(ht:t∈n.2.1):qqx n.1 t.2.1=true∧qqx n.1 t.2.2.1=true:=by
 unfold c6 at hv;simp only[Bool.and_eq_true,Bool.not_eq_true']at hv;have:=List.any_eq_false.1 hv.1.1.2 t ht;unfold q7i at this;simp only[Bool.or_eq_true,Bool.not_eq_true',not_or,Bool.not_eq_false]at this;exact⟨this.1.2,this.2⟩
end Go.Proofs.YtclbndfjhjladaaGreat
