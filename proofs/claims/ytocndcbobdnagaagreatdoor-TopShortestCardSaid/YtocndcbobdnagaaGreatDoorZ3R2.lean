/-
  TopShortest: what the card asks of the program.
-/
import Derived.Test.YtocndcbobdnagaaGreatDoorRows
import Derived.Test.YtocndcbobdnagaaGreatDoorTie
import Derived.Test.YtocndcbobdnagaaGreatDoorCards
import Derived.KernelRfl
import Derived.JoinedOf
set_option linter.all false
namespace Go.Proofs.YtocndcbobdnagaaGreatDoor
open Go
theorem cardWf : Rows.topShortestRow.wfByText (OpenSpec.ofChange Rows.topShortestSpec) = true := by kernel_rfl
theorem cardMain : Tryz.prog.mainIs = some (true, "567d73b15fcdfc99963fede18d9ac99567ef68922a4f06f6025a33017c863157".toList) := by kernel_rfl
theorem cardGoes : false = Rows.topShortestRow.goesBy Tryz.prog := by kernel_rfl
theorem cardName : Tryz.prog.funcNamed "casebook/casebooktop.TopShortest" = some 3 := by kernel_rfl
theorem cardIn : (Tryz.f3.params.toList.all fun t => !Tryz.prog.wantsStandIn t) = true := by kernel_rfl
theorem cardLooks : true = Tryz.prog.looks [] := by kernel_rfl
theorem cardPl : (Rows.topShortestRow.inPlace == Tryz.prog.inPlace 3) = true := by kernel_rfl
theorem cardUn : (Rows.topShortestRow.unfollowed == Tryz.prog.unfollowed 3) = true := by kernel_rfl
theorem cardRe : (Rows.topShortestRow.recurses == Tryz.prog.recurses 3) = true := by kernel_rfl
theorem cardNa : (Rows.topShortestRow.named == Tryz.prog.varsNamed 3) = true := by kernel_rfl
theorem cardJoin : joinedFacts Tryz.prog 3 Tryz.f3 Rows.topShortestSpec Rows.topShortestRow = true := by
 unfold joinedFacts
 simp only [Bool.and_eq_true]
 repeat' apply And.intro
 all_goals first | with_reducible exact cardPl | with_reducible exact cardUn | with_reducible exact cardRe | with_reducible exact cardNa | kernel_rfl
end Go.Proofs.YtocndcbobdnagaaGreatDoor
