/-
  Predict: Steps and Late of program and reference agree.
-/
import Derived.Test.YtokeielgplbdeaaZ8C6
set_option linter.all false
namespace Go.Proofs.Ytokeielgplbdeaa
open Go.K Go.M
abbrev qau(T:Nat):List af:=List.replicate T (1,1,false,())
theorem q77:∀T:Nat,T≤20→fk [(1,1,false,())] (T:Int)=some (qau T)
 |0,_=>by kernel_rfl
 |1,_=>by kernel_rfl
 |2,_=>by kernel_rfl
 |3,_=>by kernel_rfl
 |4,_=>by kernel_rfl
 |5,_=>by kernel_rfl
 |6,_=>by kernel_rfl
 |7,_=>by kernel_rfl
 |8,_=>by kernel_rfl
 |9,_=>by kernel_rfl
 |10,_=>by kernel_rfl
 |11,_=>by kernel_rfl
 |12,_=>by kernel_rfl
 |13,_=>by kernel_rfl
 |14,_=>by kernel_rfl
 |15,_=>by kernel_rfl
 |16,_=>by kernel_rfl
 |17,_=>by kernel_rfl
 |18,_=>by kernel_rfl
 |19,_=>by kernel_rfl
 |20,_=>by kernel_rfl
 |n+21,h=>absurd h (by omega)
theorem jbk:∀T:Nat,T≤20→qts (T:Int)=some (qau T)
 |0,_=>by kernel_rfl
 |1,_=>by kernel_rfl
 |2,_=>by kernel_rfl
 |3,_=>by kernel_rfl
 |4,_=>by kernel_rfl
 |5,_=>by kernel_rfl
 |6,_=>by kernel_rfl
 |7,_=>by kernel_rfl
 |8,_=>by kernel_rfl
 |9,_=>by kernel_rfl
 |10,_=>by kernel_rfl
 |11,_=>by kernel_rfl
 |12,_=>by kernel_rfl
 |13,_=>by kernel_rfl
 |14,_=>by kernel_rfl
 |15,_=>by kernel_rfl
 |16,_=>by kernel_rfl
 |17,_=>by kernel_rfl
 |18,_=>by kernel_rfl
 |19,_=>by kernel_rfl
 |20,_=>by kernel_rfl
 |n+21,h=>absurd h (by omega)
theorem vy(T:Nat):du (qau T) T=true:=by
 unfold du;rw[List.length_replicate,decide_eq_true rfl,Bool.true_and,Bool.not_eq_true'];refine List.any_eq_false.2 fun x hx=> ?_
 rw[(List.mem_replicate.1 hx).2]
 decide
end Go.Proofs.Ytokeielgplbdeaa
