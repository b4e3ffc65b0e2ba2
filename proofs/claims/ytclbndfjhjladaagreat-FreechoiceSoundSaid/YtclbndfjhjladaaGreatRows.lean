/-
  No cell of these rows narrows 'for every input' (looked for: loops, veiled, ifaces, maps, wideKeys, modest, calm, conditions, laid).
  DERIVED. THE GIVEN ROWS OF THIS SEAT. 5 by the template 'for every input the law returns true; each argument reads behind the call as it read before'; 0 by the template 'total and deterministic' (their statements: YtclbndfjhjladaaGreatTotals.lean).
  GIVEN WITH THE SEED: the statements are not yours to turn. If you find one false, say at which input.
  Laid BY PROGRAM, IN A SANDBOX (cutbox-rows.mjs): the forced cells as the released guide's own fill.sh prints them over the translation dd41c6ceb0b29dc2… (all of the seat's roots in one cut). By AI agents, Wed Nov 11 2026. No macro, syntax, notation, axiom, sorry.
-/
import Derived.Test.YtclbndfjhjladaaGreatChecked
import GoSem.Claim
import GoSem.ClaimJoined
import GoSem.ClaimMapViews
import Derived.JoinedTies
import Derived.KernelRfl
namespace Go.Proofs.YtclbndfjhjladaaGreat
/- THE CELL 'sum', in the pinned program and in every row, IS THE sha256 OF THE DUMP (.gsa) THAT YtclbndfjhjladaaGreatProg.lean LOADS. Nothing in Lean hashes anything: it is a label: what it is worth is what the hold of that sum in a sandbox is worth. -/
noncomputable def Tryz.pinned : Pinned := { name := "ytclbndfjhjladaagreat", sum := "dd41c6ceb0b29dc205f01eba9e2aa91a13140771c01e3e4aacbb8c1569485b55", checked := Tryz.checked }
namespace Rows
def none {H : Type} : Left H := { results := [], args := [] }

/-- 'casebooklaw27.FreechoiceForms': WHATEVER THE INPUT: true; the input reads as it did. -/
def freechoiceFormsSpec : ChangeSpec := { name := "freechoiceForms", fn := fun _ => fun
  | [d] => { results := [.lit (.bool true)], args := [d] }
  | _ => none }
def freechoiceFormsRow : OpenClaim := { program := "ytclbndfjhjladaagreat", sum := "dd41c6ceb0b29dc205f01eba9e2aa91a13140771c01e3e4aacbb8c1569485b55", func := "casebook/casebooklaw27.FreechoiceForms", spec := "freechoiceForms", unfollowed := true, recurses := true, apart := false }
def FreechoiceFormsSaid : Prop := freechoiceFormsRow.holds Tryz.pinned (OpenSpec.ofChange freechoiceFormsSpec)

/-- ITS FALSE NEIGHBOUR: 'it returns false'. Refute it at one input. -/
def freechoiceFormsWrong : ChangeSpec := { name := "freechoiceForms", fn := fun _ => fun
  | [d] => { results := [.lit (.bool false)], args := [d] }
  | _ => none }
def FreechoiceFormsWrongFalsely : Prop := freechoiceFormsRow.holds Tryz.pinned (OpenSpec.ofChange freechoiceFormsWrong)

/-- 'casebooklaw27.FreechoiceRank': WHATEVER THE INPUT: true; the input reads as it did. -/
def freechoiceRankSpec : ChangeSpec := { name := "freechoiceRank", fn := fun _ => fun
  | [d] => { results := [.lit (.bool true)], args := [d] }
  | _ => none }
def freechoiceRankRow : OpenClaim := { program := "ytclbndfjhjladaagreat", sum := "dd41c6ceb0b29dc205f01eba9e2aa91a13140771c01e3e4aacbb8c1569485b55", func := "casebook/casebooklaw27.FreechoiceRank", spec := "freechoiceRank", unfollowed := true, recurses := true, apart := false }
def FreechoiceRankSaid : Prop := freechoiceRankRow.holds Tryz.pinned (OpenSpec.ofChange freechoiceRankSpec)

/-- ITS FALSE NEIGHBOUR: 'it returns false'. Refute it at one input. -/
def freechoiceRankWrong : ChangeSpec := { name := "freechoiceRank", fn := fun _ => fun
  | [d] => { results := [.lit (.bool false)], args := [d] }
  | _ => none }
def FreechoiceRankWrongFalsely : Prop := freechoiceRankRow.holds Tryz.pinned (OpenSpec.ofChange freechoiceRankWrong)

/-- 'casebooklaw27.FreechoiceSound': WHATEVER THE INPUT: true; the input reads as it did. -/
def freechoiceSoundSpec : ChangeSpec := { name := "freechoiceSound", fn := fun _ => fun
  | [d] => { results := [.lit (.bool true)], args := [d] }
  | _ => none }
def freechoiceSoundRow : OpenClaim := { program := "ytclbndfjhjladaagreat", sum := "dd41c6ceb0b29dc205f01eba9e2aa91a13140771c01e3e4aacbb8c1569485b55", func := "casebook/casebooklaw27.FreechoiceSound", spec := "freechoiceSound", unfollowed := true, recurses := true, apart := false }
def FreechoiceSoundSaid : Prop := freechoiceSoundRow.holds Tryz.pinned (OpenSpec.ofChange freechoiceSoundSpec)

/-- ITS FALSE NEIGHBOUR: 'it returns false'. Refute it at one input. -/
def freechoiceSoundWrong : ChangeSpec := { name := "freechoiceSound", fn := fun _ => fun
  | [d] => { results := [.lit (.bool false)], args := [d] }
  | _ => none }
def FreechoiceSoundWrongFalsely : Prop := freechoiceSoundRow.holds Tryz.pinned (OpenSpec.ofChange freechoiceSoundWrong)

/-- 'casebooklaw27.FreechoiceLives': WHATEVER THE INPUT: true; the input reads as it did. -/
def freechoiceLivesSpec : ChangeSpec := { name := "freechoiceLives", fn := fun _ => fun
  | [d1, d2] => { results := [.lit (.bool true)], args := [d1, d2] }
  | _ => none }
def freechoiceLivesRow : OpenClaim := { program := "ytclbndfjhjladaagreat", sum := "dd41c6ceb0b29dc205f01eba9e2aa91a13140771c01e3e4aacbb8c1569485b55", func := "casebook/casebooklaw27.FreechoiceLives", spec := "freechoiceLives", unfollowed := true, recurses := true, apart := false }
def FreechoiceLivesSaid : Prop := freechoiceLivesRow.holds Tryz.pinned (OpenSpec.ofChange freechoiceLivesSpec)

/-- ITS FALSE NEIGHBOUR: 'it returns false'. Refute it at one input. -/
def freechoiceLivesWrong : ChangeSpec := { name := "freechoiceLives", fn := fun _ => fun
  | [d1, d2] => { results := [.lit (.bool false)], args := [d1, d2] }
  | _ => none }
def FreechoiceLivesWrongFalsely : Prop := freechoiceLivesRow.holds Tryz.pinned (OpenSpec.ofChange freechoiceLivesWrong)

/-- 'casebooklaw27.FreechoiceCommoner': WHATEVER THE INPUT: true; the input reads as it did. -/
def freechoiceCommonerSpec : ChangeSpec := { name := "freechoiceCommoner", fn := fun _ => fun
  | [d1, d2] => { results := [.lit (.bool true)], args := [d1, d2] }
  | _ => none }
def freechoiceCommonerRow : OpenClaim := { program := "ytclbndfjhjladaagreat", sum := "dd41c6ceb0b29dc205f01eba9e2aa91a13140771c01e3e4aacbb8c1569485b55", func := "casebook/casebooklaw27.FreechoiceCommoner", spec := "freechoiceCommoner", unfollowed := true, recurses := true, apart := false }
def FreechoiceCommonerSaid : Prop := freechoiceCommonerRow.holds Tryz.pinned (OpenSpec.ofChange freechoiceCommonerSpec)

/-- ITS FALSE NEIGHBOUR: 'it returns false'. Refute it at one input. -/
def freechoiceCommonerWrong : ChangeSpec := { name := "freechoiceCommoner", fn := fun _ => fun
  | [d1, d2] => { results := [.lit (.bool false)], args := [d1, d2] }
  | _ => none }
def FreechoiceCommonerWrongFalsely : Prop := freechoiceCommonerRow.holds Tryz.pinned (OpenSpec.ofChange freechoiceCommonerWrong)

/- THE SECOND FORM. 'bulk': how many values and letters a reading holds, each counted each time it is reached (what is shared counts as often as it is met; a slice's spare places count too). A statement '..UptoSaid' is the law's where the arguments, and the package variables that the reading takes, are together of bulk at most 1048576: NARROWER than '..Said'. Prove '..Said' where nothing that the law and all that it calls make is longer than what came in: it says more and counts as full. Else prove '..UptoSaid'. A law counts once. -/
mutual
def uptoBulk {H : Type} : DataW H → Nat
  | .lit (.string bytes) => bytes.length + 1
  | .lit _ => 1
  | .nil => 1
  | .ptr d => uptoBulk d + 1
  | .slice elems spare => uptoBulkAll elems + uptoBulkAll spare + 1
  | .agg parts => uptoBulkAll parts + 1
  | .iface _ d => uptoBulk d + 1
  | .map entries => uptoBulkEntries entries + 1
  | .held _ => 1
def uptoBulkAll {H : Type} : List (DataW H) → Nat
  | [] => 0
  | d :: r => uptoBulk d + uptoBulkAll r
def uptoBulkEntries {H : Type} : List (Lit × DataW H) → Nat
  | [] => 0
  | x :: r => uptoBulkEntry x + uptoBulkEntries r
def uptoBulkEntry {H : Type} : Lit × DataW H → Nat
  | (.string bytes, d) => bytes.length + uptoBulk d + 1
  | (_, d) => uptoBulk d + 1
 end
def uptoSmall : (H : Type) → List (DataW H) → Bool := fun _ ds => decide (uptoBulkAll ds ≤ 1048576)
def OpenSpec.upto (s : _root_.Go.ChangeSpec) : _root_.Go.OpenSpec := { _root_.Go.OpenSpec.ofChange s with cond := some uptoSmall }

/-- 'casebooklaw27.FreechoiceForms', WHERE WHAT IT READS IS OF BULK AT MOST 1048576: true; the input reads as it did. -/
def freechoiceFormsUptoRow : OpenClaim := { program := "ytclbndfjhjladaagreat", sum := "dd41c6ceb0b29dc205f01eba9e2aa91a13140771c01e3e4aacbb8c1569485b55", func := "casebook/casebooklaw27.FreechoiceForms", spec := "freechoiceForms", unfollowed := true, recurses := true, apart := false, narrowed := true }
def FreechoiceFormsUptoSaid : Prop := freechoiceFormsUptoRow.holds Tryz.pinned (OpenSpec.upto freechoiceFormsSpec)

/-- 'casebooklaw27.FreechoiceRank', WHERE WHAT IT READS IS OF BULK AT MOST 1048576: true; the input reads as it did. -/
def freechoiceRankUptoRow : OpenClaim := { program := "ytclbndfjhjladaagreat", sum := "dd41c6ceb0b29dc205f01eba9e2aa91a13140771c01e3e4aacbb8c1569485b55", func := "casebook/casebooklaw27.FreechoiceRank", spec := "freechoiceRank", unfollowed := true, recurses := true, apart := false, narrowed := true }
def FreechoiceRankUptoSaid : Prop := freechoiceRankUptoRow.holds Tryz.pinned (OpenSpec.upto freechoiceRankSpec)

/-- 'casebooklaw27.FreechoiceSound', WHERE WHAT IT READS IS OF BULK AT MOST 1048576: true; the input reads as it did. -/
def freechoiceSoundUptoRow : OpenClaim := { program := "ytclbndfjhjladaagreat", sum := "dd41c6ceb0b29dc205f01eba9e2aa91a13140771c01e3e4aacbb8c1569485b55", func := "casebook/casebooklaw27.FreechoiceSound", spec := "freechoiceSound", unfollowed := true, recurses := true, apart := false, narrowed := true }
def FreechoiceSoundUptoSaid : Prop := freechoiceSoundUptoRow.holds Tryz.pinned (OpenSpec.upto freechoiceSoundSpec)

/-- 'casebooklaw27.FreechoiceLives', WHERE WHAT IT READS IS OF BULK AT MOST 1048576: true; the input reads as it did. -/
def freechoiceLivesUptoRow : OpenClaim := { program := "ytclbndfjhjladaagreat", sum := "dd41c6ceb0b29dc205f01eba9e2aa91a13140771c01e3e4aacbb8c1569485b55", func := "casebook/casebooklaw27.FreechoiceLives", spec := "freechoiceLives", unfollowed := true, recurses := true, apart := false, narrowed := true }
def FreechoiceLivesUptoSaid : Prop := freechoiceLivesUptoRow.holds Tryz.pinned (OpenSpec.upto freechoiceLivesSpec)

/-- 'casebooklaw27.FreechoiceCommoner', WHERE WHAT IT READS IS OF BULK AT MOST 1048576: true; the input reads as it did. -/
def freechoiceCommonerUptoRow : OpenClaim := { program := "ytclbndfjhjladaagreat", sum := "dd41c6ceb0b29dc205f01eba9e2aa91a13140771c01e3e4aacbb8c1569485b55", func := "casebook/casebooklaw27.FreechoiceCommoner", spec := "freechoiceCommoner", unfollowed := true, recurses := true, apart := false, narrowed := true }
def FreechoiceCommonerUptoSaid : Prop := freechoiceCommonerUptoRow.holds Tryz.pinned (OpenSpec.upto freechoiceCommonerSpec)

end Rows
end Go.Proofs.YtclbndfjhjladaaGreat
