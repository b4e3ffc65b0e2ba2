/-
  Migrate: the law MigrateKeeps.
-/
import Derived.Test.YtdhfhpdadbopkaaZ7M7
set_option linter.all false
namespace Go.Proofs.Ytdhfhpdadbopkaa
open Go.K Go.M
structure Fol (old new : az) (L : List Pr) (x : List Int) (l : Ms) : Prop where
 mark : bu old.1 x = true
 all : rv new l
 len : l.length ≤ 200
 has : ∃ y ∈ l, inB L x y = true
end Go.Proofs.Ytdhfhpdadbopkaa
