/-
  No cell of these rows narrows 'for every input' (looked for: loops, veiled, ifaces, maps, wideKeys, modest, calm, conditions, laid).
  DERIVED. THE GIVEN ROWS OF THIS SEAT. 8 by the template 'for every input the law returns true; each argument reads behind the call as it read before'; 0 by the template 'total and deterministic' (their statements: YtjjhanfglelldaaTotals.lean).
  GIVEN WITH THE SEED: the statements are not yours to turn. If you find one false, say at which input.
  Laid BY PROGRAM, IN A SANDBOX (cutbox-rows.mjs): the forced cells as the released guide's own fill.sh prints them over the translation 8a2a18ad854a45f4… (all of the seat's roots in one cut). By AI agents, Wed Nov 11 2026. No macro, syntax, notation, axiom, sorry.
-/
import Derived.Test.YtjjhanfglelldaaChecked
import GoSem.Claim
import GoSem.ClaimJoined
import GoSem.ClaimMapViews
import Derived.JoinedTies
import Derived.KernelRfl
namespace Go.Proofs.Ytjjhanfglelldaa
/- THE CELL 'sum', in the pinned program and in every row, IS THE sha256 OF THE DUMP (.gsa) THAT YtjjhanfglelldaaProg.lean LOADS. Nothing in Lean hashes anything: it is a label: what it is worth is what the hold of that sum in a sandbox is worth. -/
noncomputable def Try.pinned : Pinned := { name := "ytjjhanfglelldaa", sum := "8a2a18ad854a45f489455c005051da3b01dfa6698bbea2b31130516b7bbc8522", checked := Try.checked }
namespace Rows
def none {H : Type} : Left H := { results := [], args := [] }

/-- 'casebooklaw05.MatrixKernels': WHATEVER THE INPUT: true; the input reads as it did. -/
def matrixKernelsSpec : ChangeSpec := { name := "matrixKernels", fn := fun _ => fun
  | [d] => { results := [.lit (.bool true)], args := [d] }
  | _ => none }
def matrixKernelsRow : OpenClaim := { program := "ytjjhanfglelldaa", sum := "8a2a18ad854a45f489455c005051da3b01dfa6698bbea2b31130516b7bbc8522", func := "casebook/casebooklaw05.MatrixKernels", spec := "matrixKernels", unfollowed := true, recurses := true, apart := false }
def MatrixKernelsSaid : Prop := matrixKernelsRow.holds Try.pinned (OpenSpec.ofChange matrixKernelsSpec)

/-- ITS FALSE NEIGHBOUR: 'it returns false'. Refute it at one input. -/
def matrixKernelsWrong : ChangeSpec := { name := "matrixKernels", fn := fun _ => fun
  | [d] => { results := [.lit (.bool false)], args := [d] }
  | _ => none }
def MatrixKernelsWrongFalsely : Prop := matrixKernelsRow.holds Try.pinned (OpenSpec.ofChange matrixKernelsWrong)

/-- 'casebooklaw05.MatrixSolves': WHATEVER THE INPUT: true; the input reads as it did. -/
def matrixSolvesSpec : ChangeSpec := { name := "matrixSolves", fn := fun _ => fun
  | [d1, d2] => { results := [.lit (.bool true)], args := [d1, d2] }
  | _ => none }
def matrixSolvesRow : OpenClaim := { program := "ytjjhanfglelldaa", sum := "8a2a18ad854a45f489455c005051da3b01dfa6698bbea2b31130516b7bbc8522", func := "casebook/casebooklaw05.MatrixSolves", spec := "matrixSolves", unfollowed := true, recurses := true, apart := false }
def MatrixSolvesSaid : Prop := matrixSolvesRow.holds Try.pinned (OpenSpec.ofChange matrixSolvesSpec)

/-- ITS FALSE NEIGHBOUR: 'it returns false'. Refute it at one input. -/
def matrixSolvesWrong : ChangeSpec := { name := "matrixSolves", fn := fun _ => fun
  | [d1, d2] => { results := [.lit (.bool false)], args := [d1, d2] }
  | _ => none }
def MatrixSolvesWrongFalsely : Prop := matrixSolvesRow.holds Try.pinned (OpenSpec.ofChange matrixSolvesWrong)

/-- 'casebooklaw05.MatrixNull': WHATEVER THE INPUT: true; the input reads as it did. -/
def matrixNullSpec : ChangeSpec := { name := "matrixNull", fn := fun _ => fun
  | [d] => { results := [.lit (.bool true)], args := [d] }
  | _ => none }
def matrixNullRow : OpenClaim := { program := "ytjjhanfglelldaa", sum := "8a2a18ad854a45f489455c005051da3b01dfa6698bbea2b31130516b7bbc8522", func := "casebook/casebooklaw05.MatrixNull", spec := "matrixNull", unfollowed := true, recurses := true, apart := false }
def MatrixNullSaid : Prop := matrixNullRow.holds Try.pinned (OpenSpec.ofChange matrixNullSpec)

/-- ITS FALSE NEIGHBOUR: 'it returns false'. Refute it at one input. -/
def matrixNullWrong : ChangeSpec := { name := "matrixNull", fn := fun _ => fun
  | [d] => { results := [.lit (.bool false)], args := [d] }
  | _ => none }
def MatrixNullWrongFalsely : Prop := matrixNullRow.holds Try.pinned (OpenSpec.ofChange matrixNullWrong)

/-- 'casebooklaw05.MatrixAlternative': WHATEVER THE INPUT: true; the input reads as it did. -/
def matrixAlternativeSpec : ChangeSpec := { name := "matrixAlternative", fn := fun _ => fun
  | [d1, d2] => { results := [.lit (.bool true)], args := [d1, d2] }
  | _ => none }
def matrixAlternativeRow : OpenClaim := { program := "ytjjhanfglelldaa", sum := "8a2a18ad854a45f489455c005051da3b01dfa6698bbea2b31130516b7bbc8522", func := "casebook/casebooklaw05.MatrixAlternative", spec := "matrixAlternative", unfollowed := true, recurses := true, apart := false }
def MatrixAlternativeSaid : Prop := matrixAlternativeRow.holds Try.pinned (OpenSpec.ofChange matrixAlternativeSpec)

/-- ITS FALSE NEIGHBOUR: 'it returns false'. Refute it at one input. -/
def matrixAlternativeWrong : ChangeSpec := { name := "matrixAlternative", fn := fun _ => fun
  | [d1, d2] => { results := [.lit (.bool false)], args := [d1, d2] }
  | _ => none }
def MatrixAlternativeWrongFalsely : Prop := matrixAlternativeRow.holds Try.pinned (OpenSpec.ofChange matrixAlternativeWrong)

/-- 'casebooklaw05.MatrixRanks': WHATEVER THE INPUT: true; the input reads as it did. -/
def matrixRanksSpec : ChangeSpec := { name := "matrixRanks", fn := fun _ => fun
  | [d] => { results := [.lit (.bool true)], args := [d] }
  | _ => none }
def matrixRanksRow : OpenClaim := { program := "ytjjhanfglelldaa", sum := "8a2a18ad854a45f489455c005051da3b01dfa6698bbea2b31130516b7bbc8522", func := "casebook/casebooklaw05.MatrixRanks", spec := "matrixRanks", unfollowed := true, recurses := true, apart := false }
def MatrixRanksSaid : Prop := matrixRanksRow.holds Try.pinned (OpenSpec.ofChange matrixRanksSpec)

/-- ITS FALSE NEIGHBOUR: 'it returns false'. Refute it at one input. -/
def matrixRanksWrong : ChangeSpec := { name := "matrixRanks", fn := fun _ => fun
  | [d] => { results := [.lit (.bool false)], args := [d] }
  | _ => none }
def MatrixRanksWrongFalsely : Prop := matrixRanksRow.holds Try.pinned (OpenSpec.ofChange matrixRanksWrong)

/-- 'casebooklaw05.MatrixMuls': WHATEVER THE INPUT: true; the input reads as it did. -/
def matrixMulsSpec : ChangeSpec := { name := "matrixMuls", fn := fun _ => fun
  | [d1, d2] => { results := [.lit (.bool true)], args := [d1, d2] }
  | _ => none }
def matrixMulsRow : OpenClaim := { program := "ytjjhanfglelldaa", sum := "8a2a18ad854a45f489455c005051da3b01dfa6698bbea2b31130516b7bbc8522", func := "casebook/casebooklaw05.MatrixMuls", spec := "matrixMuls", unfollowed := true, recurses := true, apart := false }
def MatrixMulsSaid : Prop := matrixMulsRow.holds Try.pinned (OpenSpec.ofChange matrixMulsSpec)

/-- ITS FALSE NEIGHBOUR: 'it returns false'. Refute it at one input. -/
def matrixMulsWrong : ChangeSpec := { name := "matrixMuls", fn := fun _ => fun
  | [d1, d2] => { results := [.lit (.bool false)], args := [d1, d2] }
  | _ => none }
def MatrixMulsWrongFalsely : Prop := matrixMulsRow.holds Try.pinned (OpenSpec.ofChange matrixMulsWrong)

/-- 'casebooklaw05.MatrixProducts': WHATEVER THE INPUT: true; the input reads as it did. -/
def matrixProductsSpec : ChangeSpec := { name := "matrixProducts", fn := fun _ => fun
  | [d1, d2, d3] => { results := [.lit (.bool true)], args := [d1, d2, d3] }
  | _ => none }
def matrixProductsRow : OpenClaim := { program := "ytjjhanfglelldaa", sum := "8a2a18ad854a45f489455c005051da3b01dfa6698bbea2b31130516b7bbc8522", func := "casebook/casebooklaw05.MatrixProducts", spec := "matrixProducts", unfollowed := true, recurses := true, apart := false }
def MatrixProductsSaid : Prop := matrixProductsRow.holds Try.pinned (OpenSpec.ofChange matrixProductsSpec)

/-- ITS FALSE NEIGHBOUR: 'it returns false'. Refute it at one input. -/
def matrixProductsWrong : ChangeSpec := { name := "matrixProducts", fn := fun _ => fun
  | [d1, d2, d3] => { results := [.lit (.bool false)], args := [d1, d2, d3] }
  | _ => none }
def MatrixProductsWrongFalsely : Prop := matrixProductsRow.holds Try.pinned (OpenSpec.ofChange matrixProductsWrong)

/-- 'casebooklaw05.MatrixDets': WHATEVER THE INPUT: true; the input reads as it did. -/
def matrixDetsSpec : ChangeSpec := { name := "matrixDets", fn := fun _ => fun
  | [d1, d2, d3, d4] => { results := [.lit (.bool true)], args := [d1, d2, d3, d4] }
  | _ => none }
def matrixDetsRow : OpenClaim := { program := "ytjjhanfglelldaa", sum := "8a2a18ad854a45f489455c005051da3b01dfa6698bbea2b31130516b7bbc8522", func := "casebook/casebooklaw05.MatrixDets", spec := "matrixDets", unfollowed := true, recurses := true, apart := false }
def MatrixDetsSaid : Prop := matrixDetsRow.holds Try.pinned (OpenSpec.ofChange matrixDetsSpec)

/-- ITS FALSE NEIGHBOUR: 'it returns false'. Refute it at one input. -/
def matrixDetsWrong : ChangeSpec := { name := "matrixDets", fn := fun _ => fun
  | [d1, d2, d3, d4] => { results := [.lit (.bool false)], args := [d1, d2, d3, d4] }
  | _ => none }
def MatrixDetsWrongFalsely : Prop := matrixDetsRow.holds Try.pinned (OpenSpec.ofChange matrixDetsWrong)

/- THE SECOND FORM. 'bulk': how many values and letters a reading holds, each counted each time it is reached (what is shared counts as often as it is met; a slice's spare places count too). A statement '..UptoSaid' is the law's where the arguments, and the package variables that the reading takes, are together of bulk at most 1048576: NARROWER than '..Said'. Prove '..Said' where nothing that the law and all that it calls make is longer than what came in: it says more and counts as full. Else prove '..UptoSaid'. A law counts once. -/
mutual
def uptoBulk {H : Type} : DataW H → Nat
  | .lit (.string bytes) => bytes.length + 1
  | .lit _ => 1
  | .nil => 1
  | .ptr d => uptoBulk d + 1
  | .slice elems spare => uptoBulkAll elems + uptoBulkAll spare + 1
  | .agg parts => uptoBulkAll parts + 1
  | .iface _ d => uptoBulk d + 1
  | .map entries => uptoBulkEntries entries + 1
  | .held _ => 1
def uptoBulkAll {H : Type} : List (DataW H) → Nat
  | [] => 0
  | d :: r => uptoBulk d + uptoBulkAll r
def uptoBulkEntries {H : Type} : List (Lit × DataW H) → Nat
  | [] => 0
  | x :: r => uptoBulkEntry x + uptoBulkEntries r
def uptoBulkEntry {H : Type} : Lit × DataW H → Nat
  | (.string bytes, d) => bytes.length + uptoBulk d + 1
  | (_, d) => uptoBulk d + 1
 end
def uptoSmall : (H : Type) → List (DataW H) → Bool := fun _ ds => decide (uptoBulkAll ds ≤ 1048576)
def OpenSpec.upto (s : _root_.Go.ChangeSpec) : _root_.Go.OpenSpec := { _root_.Go.OpenSpec.ofChange s with cond := some uptoSmall }

/-- 'casebooklaw05.MatrixKernels', WHERE WHAT IT READS IS OF BULK AT MOST 1048576: true; the input reads as it did. -/
def matrixKernelsUptoRow : OpenClaim := { program := "ytjjhanfglelldaa", sum := "8a2a18ad854a45f489455c005051da3b01dfa6698bbea2b31130516b7bbc8522", func := "casebook/casebooklaw05.MatrixKernels", spec := "matrixKernels", unfollowed := true, recurses := true, apart := false, narrowed := true }
def MatrixKernelsUptoSaid : Prop := matrixKernelsUptoRow.holds Try.pinned (OpenSpec.upto matrixKernelsSpec)

/-- 'casebooklaw05.MatrixSolves', WHERE WHAT IT READS IS OF BULK AT MOST 1048576: true; the input reads as it did. -/
def matrixSolvesUptoRow : OpenClaim := { program := "ytjjhanfglelldaa", sum := "8a2a18ad854a45f489455c005051da3b01dfa6698bbea2b31130516b7bbc8522", func := "casebook/casebooklaw05.MatrixSolves", spec := "matrixSolves", unfollowed := true, recurses := true, apart := false, narrowed := true }
def MatrixSolvesUptoSaid : Prop := matrixSolvesUptoRow.holds Try.pinned (OpenSpec.upto matrixSolvesSpec)

/-- 'casebooklaw05.MatrixNull', WHERE WHAT IT READS IS OF BULK AT MOST 1048576: true; the input reads as it did. -/
def matrixNullUptoRow : OpenClaim := { program := "ytjjhanfglelldaa", sum := "8a2a18ad854a45f489455c005051da3b01dfa6698bbea2b31130516b7bbc8522", func := "casebook/casebooklaw05.MatrixNull", spec := "matrixNull", unfollowed := true, recurses := true, apart := false, narrowed := true }
def MatrixNullUptoSaid : Prop := matrixNullUptoRow.holds Try.pinned (OpenSpec.upto matrixNullSpec)

/-- 'casebooklaw05.MatrixAlternative', WHERE WHAT IT READS IS OF BULK AT MOST 1048576: true; the input reads as it did. -/
def matrixAlternativeUptoRow : OpenClaim := { program := "ytjjhanfglelldaa", sum := "8a2a18ad854a45f489455c005051da3b01dfa6698bbea2b31130516b7bbc8522", func := "casebook/casebooklaw05.MatrixAlternative", spec := "matrixAlternative", unfollowed := true, recurses := true, apart := false, narrowed := true }
def MatrixAlternativeUptoSaid : Prop := matrixAlternativeUptoRow.holds Try.pinned (OpenSpec.upto matrixAlternativeSpec)

/-- 'casebooklaw05.MatrixRanks', WHERE WHAT IT READS IS OF BULK AT MOST 1048576: true; the input reads as it did. -/
def matrixRanksUptoRow : OpenClaim := { program := "ytjjhanfglelldaa", sum := "8a2a18ad854a45f489455c005051da3b01dfa6698bbea2b31130516b7bbc8522", func := "casebook/casebooklaw05.MatrixRanks", spec := "matrixRanks", unfollowed := true, recurses := true, apart := false, narrowed := true }
def MatrixRanksUptoSaid : Prop := matrixRanksUptoRow.holds Try.pinned (OpenSpec.upto matrixRanksSpec)

/-- 'casebooklaw05.MatrixMuls', WHERE WHAT IT READS IS OF BULK AT MOST 1048576: true; the input reads as it did. -/
def matrixMulsUptoRow : OpenClaim := { program := "ytjjhanfglelldaa", sum := "8a2a18ad854a45f489455c005051da3b01dfa6698bbea2b31130516b7bbc8522", func := "casebook/casebooklaw05.MatrixMuls", spec := "matrixMuls", unfollowed := true, recurses := true, apart := false, narrowed := true }
def MatrixMulsUptoSaid : Prop := matrixMulsUptoRow.holds Try.pinned (OpenSpec.upto matrixMulsSpec)

/-- 'casebooklaw05.MatrixProducts', WHERE WHAT IT READS IS OF BULK AT MOST 1048576: true; the input reads as it did. -/
def matrixProductsUptoRow : OpenClaim := { program := "ytjjhanfglelldaa", sum := "8a2a18ad854a45f489455c005051da3b01dfa6698bbea2b31130516b7bbc8522", func := "casebook/casebooklaw05.MatrixProducts", spec := "matrixProducts", unfollowed := true, recurses := true, apart := false, narrowed := true }
def MatrixProductsUptoSaid : Prop := matrixProductsUptoRow.holds Try.pinned (OpenSpec.upto matrixProductsSpec)

/-- 'casebooklaw05.MatrixDets', WHERE WHAT IT READS IS OF BULK AT MOST 1048576: true; the input reads as it did. -/
def matrixDetsUptoRow : OpenClaim := { program := "ytjjhanfglelldaa", sum := "8a2a18ad854a45f489455c005051da3b01dfa6698bbea2b31130516b7bbc8522", func := "casebook/casebooklaw05.MatrixDets", spec := "matrixDets", unfollowed := true, recurses := true, apart := false, narrowed := true }
def MatrixDetsUptoSaid : Prop := matrixDetsUptoRow.holds Try.pinned (OpenSpec.upto matrixDetsSpec)

end Rows
end Go.Proofs.Ytjjhanfglelldaa
