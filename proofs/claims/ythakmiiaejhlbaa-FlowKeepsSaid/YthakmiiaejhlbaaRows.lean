/-
  No cell of these rows narrows 'for every input' (looked for: loops, veiled, ifaces, maps, wideKeys, modest, calm, conditions, laid).
  DERIVED. THE GIVEN ROWS OF THIS SEAT. 6 by the template 'for every input the law returns true; each argument reads behind the call as it read before'; 0 by the template 'total and deterministic' (their statements: YthakmiiaejhlbaaTotals.lean).
  GIVEN WITH THE SEED: the statements are not yours to turn. If you find one false, say at which input.
  Laid BY PROGRAM, IN A SANDBOX (cutbox-rows.mjs): the forced cells as the released guide's own fill.sh prints them over the translation e63a02e395557080… (all of the seat's roots in one cut). By AI agents, Wed Nov 11 2026. No macro, syntax, notation, axiom, sorry.
-/
import Derived.Test.YthakmiiaejhlbaaChecked
import GoSem.Claim
import GoSem.ClaimJoined
import GoSem.ClaimMapViews
import Derived.JoinedTies
import Derived.KernelRfl
namespace Go.Proofs.Ythakmiiaejhlbaa
/- THE CELL 'sum', in the pinned program and in every row, IS THE sha256 OF THE DUMP (.gsa) THAT YthakmiiaejhlbaaProg.lean LOADS. Nothing in Lean hashes anything: it is a label: what it is worth is what the hold of that sum in a sandbox is worth. -/
noncomputable def Try.pinned : Pinned := { name := "ythakmiiaejhlbaa", sum := "e63a02e395557080682cd071202700fb3893d36051dd7958bf095dbcb8d8eaed", checked := Try.checked }
namespace Rows
def none {H : Type} : Left H := { results := [], args := [] }

/-- 'casebooklaw26.FlowBounds': WHATEVER THE INPUT: true; the input reads as it did. -/
def flowBoundsSpec : ChangeSpec := { name := "flowBounds", fn := fun _ => fun
  | [d1, d2, d3] => { results := [.lit (.bool true)], args := [d1, d2, d3] }
  | _ => none }
def flowBoundsRow : OpenClaim := { program := "ythakmiiaejhlbaa", sum := "e63a02e395557080682cd071202700fb3893d36051dd7958bf095dbcb8d8eaed", func := "casebook/casebooklaw26.FlowBounds", spec := "flowBounds", unfollowed := true, recurses := true, apart := false }
def FlowBoundsSaid : Prop := flowBoundsRow.holds Try.pinned (OpenSpec.ofChange flowBoundsSpec)

/-- ITS FALSE NEIGHBOUR: 'it returns false'. Refute it at one input. -/
def flowBoundsWrong : ChangeSpec := { name := "flowBounds", fn := fun _ => fun
  | [d1, d2, d3] => { results := [.lit (.bool false)], args := [d1, d2, d3] }
  | _ => none }
def FlowBoundsWrongFalsely : Prop := flowBoundsRow.holds Try.pinned (OpenSpec.ofChange flowBoundsWrong)

/-- 'casebooklaw26.FlowInvariants': WHATEVER THE INPUT: true; the input reads as it did. -/
def flowInvariantsSpec : ChangeSpec := { name := "flowInvariants", fn := fun _ => fun
  | [d] => { results := [.lit (.bool true)], args := [d] }
  | _ => none }
def flowInvariantsRow : OpenClaim := { program := "ythakmiiaejhlbaa", sum := "e63a02e395557080682cd071202700fb3893d36051dd7958bf095dbcb8d8eaed", func := "casebook/casebooklaw26.FlowInvariants", spec := "flowInvariants", unfollowed := true, recurses := true, apart := false }
def FlowInvariantsSaid : Prop := flowInvariantsRow.holds Try.pinned (OpenSpec.ofChange flowInvariantsSpec)

/-- ITS FALSE NEIGHBOUR: 'it returns false'. Refute it at one input. -/
def flowInvariantsWrong : ChangeSpec := { name := "flowInvariants", fn := fun _ => fun
  | [d] => { results := [.lit (.bool false)], args := [d] }
  | _ => none }
def FlowInvariantsWrongFalsely : Prop := flowInvariantsRow.holds Try.pinned (OpenSpec.ofChange flowInvariantsWrong)

/-- 'casebooklaw26.FlowCombines': WHATEVER THE INPUT: true; the input reads as it did. -/
def flowCombinesSpec : ChangeSpec := { name := "flowCombines", fn := fun _ => fun
  | [d1, d2, d3, d4] => { results := [.lit (.bool true)], args := [d1, d2, d3, d4] }
  | _ => none }
def flowCombinesRow : OpenClaim := { program := "ythakmiiaejhlbaa", sum := "e63a02e395557080682cd071202700fb3893d36051dd7958bf095dbcb8d8eaed", func := "casebook/casebooklaw26.FlowCombines", spec := "flowCombines", unfollowed := true, recurses := true, apart := false }
def FlowCombinesSaid : Prop := flowCombinesRow.holds Try.pinned (OpenSpec.ofChange flowCombinesSpec)

/-- ITS FALSE NEIGHBOUR: 'it returns false'. Refute it at one input. -/
def flowCombinesWrong : ChangeSpec := { name := "flowCombines", fn := fun _ => fun
  | [d1, d2, d3, d4] => { results := [.lit (.bool false)], args := [d1, d2, d3, d4] }
  | _ => none }
def FlowCombinesWrongFalsely : Prop := flowCombinesRow.holds Try.pinned (OpenSpec.ofChange flowCombinesWrong)

/-- 'casebooklaw26.FlowChecks': WHATEVER THE INPUT: true; the input reads as it did. -/
def flowChecksSpec : ChangeSpec := { name := "flowChecks", fn := fun _ => fun
  | [d1, d2, d3, d4] => { results := [.lit (.bool true)], args := [d1, d2, d3, d4] }
  | _ => none }
def flowChecksRow : OpenClaim := { program := "ythakmiiaejhlbaa", sum := "e63a02e395557080682cd071202700fb3893d36051dd7958bf095dbcb8d8eaed", func := "casebook/casebooklaw26.FlowChecks", spec := "flowChecks", unfollowed := true, recurses := true, apart := false }
def FlowChecksSaid : Prop := flowChecksRow.holds Try.pinned (OpenSpec.ofChange flowChecksSpec)

/-- ITS FALSE NEIGHBOUR: 'it returns false'. Refute it at one input. -/
def flowChecksWrong : ChangeSpec := { name := "flowChecks", fn := fun _ => fun
  | [d1, d2, d3, d4] => { results := [.lit (.bool false)], args := [d1, d2, d3, d4] }
  | _ => none }
def FlowChecksWrongFalsely : Prop := flowChecksRow.holds Try.pinned (OpenSpec.ofChange flowChecksWrong)

/-- 'casebooklaw26.FlowMinimal': WHATEVER THE INPUT: true; the input reads as it did. -/
def flowMinimalSpec : ChangeSpec := { name := "flowMinimal", fn := fun _ => fun
  | [d] => { results := [.lit (.bool true)], args := [d] }
  | _ => none }
def flowMinimalRow : OpenClaim := { program := "ythakmiiaejhlbaa", sum := "e63a02e395557080682cd071202700fb3893d36051dd7958bf095dbcb8d8eaed", func := "casebook/casebooklaw26.FlowMinimal", spec := "flowMinimal", unfollowed := true, recurses := true, apart := false }
def FlowMinimalSaid : Prop := flowMinimalRow.holds Try.pinned (OpenSpec.ofChange flowMinimalSpec)

/-- ITS FALSE NEIGHBOUR: 'it returns false'. Refute it at one input. -/
def flowMinimalWrong : ChangeSpec := { name := "flowMinimal", fn := fun _ => fun
  | [d] => { results := [.lit (.bool false)], args := [d] }
  | _ => none }
def FlowMinimalWrongFalsely : Prop := flowMinimalRow.holds Try.pinned (OpenSpec.ofChange flowMinimalWrong)

/-- 'casebooklaw26.FlowKeeps': WHATEVER THE INPUT: true; the input reads as it did. -/
def flowKeepsSpec : ChangeSpec := { name := "flowKeeps", fn := fun _ => fun
  | [d1, d2, d3] => { results := [.lit (.bool true)], args := [d1, d2, d3] }
  | _ => none }
def flowKeepsRow : OpenClaim := { program := "ythakmiiaejhlbaa", sum := "e63a02e395557080682cd071202700fb3893d36051dd7958bf095dbcb8d8eaed", func := "casebook/casebooklaw26.FlowKeeps", spec := "flowKeeps", unfollowed := true, recurses := true, apart := false }
def FlowKeepsSaid : Prop := flowKeepsRow.holds Try.pinned (OpenSpec.ofChange flowKeepsSpec)

/-- ITS FALSE NEIGHBOUR: 'it returns false'. Refute it at one input. -/
def flowKeepsWrong : ChangeSpec := { name := "flowKeeps", fn := fun _ => fun
  | [d1, d2, d3] => { results := [.lit (.bool false)], args := [d1, d2, d3] }
  | _ => none }
def FlowKeepsWrongFalsely : Prop := flowKeepsRow.holds Try.pinned (OpenSpec.ofChange flowKeepsWrong)

/- THE SECOND FORM. 'bulk': how many values and letters a reading holds, each counted each time it is reached (what is shared counts as often as it is met; a slice's spare places count too). A statement '..UptoSaid' is the law's where the arguments, and the package variables that the reading takes, are together of bulk at most 1048576: NARROWER than '..Said'. Prove '..Said' where nothing that the law and all that it calls make is longer than what came in: it says more and counts as full. Else prove '..UptoSaid'. A law counts once. -/
mutual
def uptoBulk {H : Type} : DataW H → Nat
  | .lit (.string bytes) => bytes.length + 1
  | .lit _ => 1
  | .nil => 1
  | .ptr d => uptoBulk d + 1
  | .slice elems spare => uptoBulkAll elems + uptoBulkAll spare + 1
  | .agg parts => uptoBulkAll parts + 1
  | .iface _ d => uptoBulk d + 1
  | .map entries => uptoBulkEntries entries + 1
  | .held _ => 1
def uptoBulkAll {H : Type} : List (DataW H) → Nat
  | [] => 0
  | d :: r => uptoBulk d + uptoBulkAll r
def uptoBulkEntries {H : Type} : List (Lit × DataW H) → Nat
  | [] => 0
  | x :: r => uptoBulkEntry x + uptoBulkEntries r
def uptoBulkEntry {H : Type} : Lit × DataW H → Nat
  | (.string bytes, d) => bytes.length + uptoBulk d + 1
  | (_, d) => uptoBulk d + 1
 end
def uptoSmall : (H : Type) → List (DataW H) → Bool := fun _ ds => decide (uptoBulkAll ds ≤ 1048576)
def OpenSpec.upto (s : _root_.Go.ChangeSpec) : _root_.Go.OpenSpec := { _root_.Go.OpenSpec.ofChange s with cond := some uptoSmall }

/-- 'casebooklaw26.FlowBounds', WHERE WHAT IT READS IS OF BULK AT MOST 1048576: true; the input reads as it did. -/
def flowBoundsUptoRow : OpenClaim := { program := "ythakmiiaejhlbaa", sum := "e63a02e395557080682cd071202700fb3893d36051dd7958bf095dbcb8d8eaed", func := "casebook/casebooklaw26.FlowBounds", spec := "flowBounds", unfollowed := true, recurses := true, apart := false, narrowed := true }
def FlowBoundsUptoSaid : Prop := flowBoundsUptoRow.holds Try.pinned (OpenSpec.upto flowBoundsSpec)

/-- 'casebooklaw26.FlowInvariants', WHERE WHAT IT READS IS OF BULK AT MOST 1048576: true; the input reads as it did. -/
def flowInvariantsUptoRow : OpenClaim := { program := "ythakmiiaejhlbaa", sum := "e63a02e395557080682cd071202700fb3893d36051dd7958bf095dbcb8d8eaed", func := "casebook/casebooklaw26.FlowInvariants", spec := "flowInvariants", unfollowed := true, recurses := true, apart := false, narrowed := true }
def FlowInvariantsUptoSaid : Prop := flowInvariantsUptoRow.holds Try.pinned (OpenSpec.upto flowInvariantsSpec)

/-- 'casebooklaw26.FlowCombines', WHERE WHAT IT READS IS OF BULK AT MOST 1048576: true; the input reads as it did. -/
def flowCombinesUptoRow : OpenClaim := { program := "ythakmiiaejhlbaa", sum := "e63a02e395557080682cd071202700fb3893d36051dd7958bf095dbcb8d8eaed", func := "casebook/casebooklaw26.FlowCombines", spec := "flowCombines", unfollowed := true, recurses := true, apart := false, narrowed := true }
def FlowCombinesUptoSaid : Prop := flowCombinesUptoRow.holds Try.pinned (OpenSpec.upto flowCombinesSpec)

/-- 'casebooklaw26.FlowChecks', WHERE WHAT IT READS IS OF BULK AT MOST 1048576: true; the input reads as it did. -/
def flowChecksUptoRow : OpenClaim := { program := "ythakmiiaejhlbaa", sum := "e63a02e395557080682cd071202700fb3893d36051dd7958bf095dbcb8d8eaed", func := "casebook/casebooklaw26.FlowChecks", spec := "flowChecks", unfollowed := true, recurses := true, apart := false, narrowed := true }
def FlowChecksUptoSaid : Prop := flowChecksUptoRow.holds Try.pinned (OpenSpec.upto flowChecksSpec)

/-- 'casebooklaw26.FlowMinimal', WHERE WHAT IT READS IS OF BULK AT MOST 1048576: true; the input reads as it did. -/
def flowMinimalUptoRow : OpenClaim := { program := "ythakmiiaejhlbaa", sum := "e63a02e395557080682cd071202700fb3893d36051dd7958bf095dbcb8d8eaed", func := "casebook/casebooklaw26.FlowMinimal", spec := "flowMinimal", unfollowed := true, recurses := true, apart := false, narrowed := true }
def FlowMinimalUptoSaid : Prop := flowMinimalUptoRow.holds Try.pinned (OpenSpec.upto flowMinimalSpec)

/-- 'casebooklaw26.FlowKeeps', WHERE WHAT IT READS IS OF BULK AT MOST 1048576: true; the input reads as it did. -/
def flowKeepsUptoRow : OpenClaim := { program := "ythakmiiaejhlbaa", sum := "e63a02e395557080682cd071202700fb3893d36051dd7958bf095dbcb8d8eaed", func := "casebook/casebooklaw26.FlowKeeps", spec := "flowKeeps", unfollowed := true, recurses := true, apart := false, narrowed := true }
def FlowKeepsUptoSaid : Prop := flowKeepsUptoRow.holds Try.pinned (OpenSpec.upto flowKeepsSpec)

end Rows
end Go.Proofs.Ythakmiiaejhlbaa
