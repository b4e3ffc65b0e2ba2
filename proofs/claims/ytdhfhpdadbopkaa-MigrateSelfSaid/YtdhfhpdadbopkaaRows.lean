/-
  No cell of these rows narrows 'for every input' (looked for: loops, veiled, ifaces, maps, wideKeys, modest, calm, conditions, laid).
  DERIVED. THE GIVEN ROWS OF THIS SEAT. 5 by the template 'for every input the law returns true; each argument reads behind the call as it read before'; 0 by the template 'total and deterministic' (their statements: YtdhfhpdadbopkaaTotals.lean).
  GIVEN WITH THE SEED: the statements are not yours to turn. If you find one false, say at which input.
  Laid BY PROGRAM, IN A SANDBOX (cutbox-rows.mjs): the forced cells as the released guide's own fill.sh prints them over the translation bc1ec49d35693f04… (all of the seat's roots in one cut). By AI agents, Wed Nov 11 2026. No macro, syntax, notation, axiom, sorry.
-/
import Derived.Test.YtdhfhpdadbopkaaChecked
import GoSem.Claim
import GoSem.ClaimJoined
import GoSem.ClaimMapViews
import Derived.JoinedTies
import Derived.KernelRfl
namespace Go.Proofs.Ytdhfhpdadbopkaa
/- THE CELL 'sum', in the pinned program and in every row, IS THE sha256 OF THE DUMP (.gsa) THAT YtdhfhpdadbopkaaProg.lean LOADS. Nothing in Lean hashes anything: it is a label: what it is worth is what the hold of that sum in a sandbox is worth. -/
noncomputable def Try.pinned : Pinned := { name := "ytdhfhpdadbopkaa", sum := "bc1ec49d35693f0423ed4fc64e83a7fcceffdaa8381b07fe4449e3bf04cf9f61", checked := Try.checked }
namespace Rows
def none {H : Type} : Left H := { results := [], args := [] }

/-- 'casebooklaw49.MigrateKeeps': WHATEVER THE INPUT: true; the input reads as it did. -/
def migrateKeepsSpec : ChangeSpec := { name := "migrateKeeps", fn := fun _ => fun
  | [d1, d2, d3, d4, d5] => { results := [.lit (.bool true)], args := [d1, d2, d3, d4, d5] }
  | _ => none }
def migrateKeepsRow : OpenClaim := { program := "ytdhfhpdadbopkaa", sum := "bc1ec49d35693f0423ed4fc64e83a7fcceffdaa8381b07fe4449e3bf04cf9f61", func := "casebook/casebooklaw49.MigrateKeeps", spec := "migrateKeeps", inPlace := ["internal/abi.NoEscape"], unfollowed := true, recurses := true, apart := false }
def MigrateKeepsSaid : Prop := migrateKeepsRow.holds Try.pinned (OpenSpec.ofChange migrateKeepsSpec)

/-- ITS FALSE NEIGHBOUR: 'it returns false'. Refute it at one input. -/
def migrateKeepsWrong : ChangeSpec := { name := "migrateKeeps", fn := fun _ => fun
  | [d1, d2, d3, d4, d5] => { results := [.lit (.bool false)], args := [d1, d2, d3, d4, d5] }
  | _ => none }
def MigrateKeepsWrongFalsely : Prop := migrateKeepsRow.holds Try.pinned (OpenSpec.ofChange migrateKeepsWrong)

/-- 'casebooklaw49.MigrateChain': WHATEVER THE INPUT: true; the input reads as it did. -/
def migrateChainSpec : ChangeSpec := { name := "migrateChain", fn := fun _ => fun
  | [d1, d2, d3, d4, d5, d6] => { results := [.lit (.bool true)], args := [d1, d2, d3, d4, d5, d6] }
  | _ => none }
def migrateChainRow : OpenClaim := { program := "ytdhfhpdadbopkaa", sum := "bc1ec49d35693f0423ed4fc64e83a7fcceffdaa8381b07fe4449e3bf04cf9f61", func := "casebook/casebooklaw49.MigrateChain", spec := "migrateChain", inPlace := ["internal/abi.NoEscape"], unfollowed := true, recurses := true, apart := false }
def MigrateChainSaid : Prop := migrateChainRow.holds Try.pinned (OpenSpec.ofChange migrateChainSpec)

/-- ITS FALSE NEIGHBOUR: 'it returns false'. Refute it at one input. -/
def migrateChainWrong : ChangeSpec := { name := "migrateChain", fn := fun _ => fun
  | [d1, d2, d3, d4, d5, d6] => { results := [.lit (.bool false)], args := [d1, d2, d3, d4, d5, d6] }
  | _ => none }
def MigrateChainWrongFalsely : Prop := migrateChainRow.holds Try.pinned (OpenSpec.ofChange migrateChainWrong)

/-- 'casebooklaw49.MigrateSimulates': WHATEVER THE INPUT: true; the input reads as it did. -/
def migrateSimulatesSpec : ChangeSpec := { name := "migrateSimulates", fn := fun _ => fun
  | [d1, d2, d3] => { results := [.lit (.bool true)], args := [d1, d2, d3] }
  | _ => none }
def migrateSimulatesRow : OpenClaim := { program := "ytdhfhpdadbopkaa", sum := "bc1ec49d35693f0423ed4fc64e83a7fcceffdaa8381b07fe4449e3bf04cf9f61", func := "casebook/casebooklaw49.MigrateSimulates", spec := "migrateSimulates", inPlace := ["internal/abi.NoEscape"], unfollowed := true, recurses := true, apart := false }
def MigrateSimulatesSaid : Prop := migrateSimulatesRow.holds Try.pinned (OpenSpec.ofChange migrateSimulatesSpec)

/-- ITS FALSE NEIGHBOUR: 'it returns false'. Refute it at one input. -/
def migrateSimulatesWrong : ChangeSpec := { name := "migrateSimulates", fn := fun _ => fun
  | [d1, d2, d3] => { results := [.lit (.bool false)], args := [d1, d2, d3] }
  | _ => none }
def MigrateSimulatesWrongFalsely : Prop := migrateSimulatesRow.holds Try.pinned (OpenSpec.ofChange migrateSimulatesWrong)

/-- 'casebooklaw49.MigrateCompliant': WHATEVER THE INPUT: true; the input reads as it did. -/
def migrateCompliantSpec : ChangeSpec := { name := "migrateCompliant", fn := fun _ => fun
  | [d1, d2, d3, d4] => { results := [.lit (.bool true)], args := [d1, d2, d3, d4] }
  | _ => none }
def migrateCompliantRow : OpenClaim := { program := "ytdhfhpdadbopkaa", sum := "bc1ec49d35693f0423ed4fc64e83a7fcceffdaa8381b07fe4449e3bf04cf9f61", func := "casebook/casebooklaw49.MigrateCompliant", spec := "migrateCompliant", inPlace := ["internal/abi.NoEscape"], unfollowed := true, recurses := true, apart := false }
def MigrateCompliantSaid : Prop := migrateCompliantRow.holds Try.pinned (OpenSpec.ofChange migrateCompliantSpec)

/-- ITS FALSE NEIGHBOUR: 'it returns false'. Refute it at one input. -/
def migrateCompliantWrong : ChangeSpec := { name := "migrateCompliant", fn := fun _ => fun
  | [d1, d2, d3, d4] => { results := [.lit (.bool false)], args := [d1, d2, d3, d4] }
  | _ => none }
def MigrateCompliantWrongFalsely : Prop := migrateCompliantRow.holds Try.pinned (OpenSpec.ofChange migrateCompliantWrong)

/-- 'casebooklaw49.MigrateSelf': WHATEVER THE INPUT: true; the input reads as it did. -/
def migrateSelfSpec : ChangeSpec := { name := "migrateSelf", fn := fun _ => fun
  | [d1, d2] => { results := [.lit (.bool true)], args := [d1, d2] }
  | _ => none }
def migrateSelfRow : OpenClaim := { program := "ytdhfhpdadbopkaa", sum := "bc1ec49d35693f0423ed4fc64e83a7fcceffdaa8381b07fe4449e3bf04cf9f61", func := "casebook/casebooklaw49.MigrateSelf", spec := "migrateSelf", inPlace := ["internal/abi.NoEscape"], unfollowed := true, recurses := true, apart := false }
def MigrateSelfSaid : Prop := migrateSelfRow.holds Try.pinned (OpenSpec.ofChange migrateSelfSpec)

/-- ITS FALSE NEIGHBOUR: 'it returns false'. Refute it at one input. -/
def migrateSelfWrong : ChangeSpec := { name := "migrateSelf", fn := fun _ => fun
  | [d1, d2] => { results := [.lit (.bool false)], args := [d1, d2] }
  | _ => none }
def MigrateSelfWrongFalsely : Prop := migrateSelfRow.holds Try.pinned (OpenSpec.ofChange migrateSelfWrong)

/- THE SECOND FORM. 'bulk': how many values and letters a reading holds, each counted each time it is reached (what is shared counts as often as it is met; a slice's spare places count too). A statement '..UptoSaid' is the law's where the arguments, and the package variables that the reading takes, are together of bulk at most 1048576: NARROWER than '..Said'. Prove '..Said' where nothing that the law and all that it calls make is longer than what came in: it says more and counts as full. Else prove '..UptoSaid'. A law counts once. -/
mutual
def uptoBulk {H : Type} : DataW H → Nat
  | .lit (.string bytes) => bytes.length + 1
  | .lit _ => 1
  | .nil => 1
  | .ptr d => uptoBulk d + 1
  | .slice elems spare => uptoBulkAll elems + uptoBulkAll spare + 1
  | .agg parts => uptoBulkAll parts + 1
  | .iface _ d => uptoBulk d + 1
  | .map entries => uptoBulkEntries entries + 1
  | .held _ => 1
def uptoBulkAll {H : Type} : List (DataW H) → Nat
  | [] => 0
  | d :: r => uptoBulk d + uptoBulkAll r
def uptoBulkEntries {H : Type} : List (Lit × DataW H) → Nat
  | [] => 0
  | x :: r => uptoBulkEntry x + uptoBulkEntries r
def uptoBulkEntry {H : Type} : Lit × DataW H → Nat
  | (.string bytes, d) => bytes.length + uptoBulk d + 1
  | (_, d) => uptoBulk d + 1
 end
def uptoSmall : (H : Type) → List (DataW H) → Bool := fun _ ds => decide (uptoBulkAll ds ≤ 1048576)
def OpenSpec.upto (s : _root_.Go.ChangeSpec) : _root_.Go.OpenSpec := { _root_.Go.OpenSpec.ofChange s with cond := some uptoSmall }

/-- 'casebooklaw49.MigrateKeeps', WHERE WHAT IT READS IS OF BULK AT MOST 1048576: true; the input reads as it did. -/
def migrateKeepsUptoRow : OpenClaim := { program := "ytdhfhpdadbopkaa", sum := "bc1ec49d35693f0423ed4fc64e83a7fcceffdaa8381b07fe4449e3bf04cf9f61", func := "casebook/casebooklaw49.MigrateKeeps", spec := "migrateKeeps", inPlace := ["internal/abi.NoEscape"], unfollowed := true, recurses := true, apart := false, narrowed := true }
def MigrateKeepsUptoSaid : Prop := migrateKeepsUptoRow.holds Try.pinned (OpenSpec.upto migrateKeepsSpec)

/-- 'casebooklaw49.MigrateChain', WHERE WHAT IT READS IS OF BULK AT MOST 1048576: true; the input reads as it did. -/
def migrateChainUptoRow : OpenClaim := { program := "ytdhfhpdadbopkaa", sum := "bc1ec49d35693f0423ed4fc64e83a7fcceffdaa8381b07fe4449e3bf04cf9f61", func := "casebook/casebooklaw49.MigrateChain", spec := "migrateChain", inPlace := ["internal/abi.NoEscape"], unfollowed := true, recurses := true, apart := false, narrowed := true }
def MigrateChainUptoSaid : Prop := migrateChainUptoRow.holds Try.pinned (OpenSpec.upto migrateChainSpec)

/-- 'casebooklaw49.MigrateSimulates', WHERE WHAT IT READS IS OF BULK AT MOST 1048576: true; the input reads as it did. -/
def migrateSimulatesUptoRow : OpenClaim := { program := "ytdhfhpdadbopkaa", sum := "bc1ec49d35693f0423ed4fc64e83a7fcceffdaa8381b07fe4449e3bf04cf9f61", func := "casebook/casebooklaw49.MigrateSimulates", spec := "migrateSimulates", inPlace := ["internal/abi.NoEscape"], unfollowed := true, recurses := true, apart := false, narrowed := true }
def MigrateSimulatesUptoSaid : Prop := migrateSimulatesUptoRow.holds Try.pinned (OpenSpec.upto migrateSimulatesSpec)

/-- 'casebooklaw49.MigrateCompliant', WHERE WHAT IT READS IS OF BULK AT MOST 1048576: true; the input reads as it did. -/
def migrateCompliantUptoRow : OpenClaim := { program := "ytdhfhpdadbopkaa", sum := "bc1ec49d35693f0423ed4fc64e83a7fcceffdaa8381b07fe4449e3bf04cf9f61", func := "casebook/casebooklaw49.MigrateCompliant", spec := "migrateCompliant", inPlace := ["internal/abi.NoEscape"], unfollowed := true, recurses := true, apart := false, narrowed := true }
def MigrateCompliantUptoSaid : Prop := migrateCompliantUptoRow.holds Try.pinned (OpenSpec.upto migrateCompliantSpec)

/-- 'casebooklaw49.MigrateSelf', WHERE WHAT IT READS IS OF BULK AT MOST 1048576: true; the input reads as it did. -/
def migrateSelfUptoRow : OpenClaim := { program := "ytdhfhpdadbopkaa", sum := "bc1ec49d35693f0423ed4fc64e83a7fcceffdaa8381b07fe4449e3bf04cf9f61", func := "casebook/casebooklaw49.MigrateSelf", spec := "migrateSelf", inPlace := ["internal/abi.NoEscape"], unfollowed := true, recurses := true, apart := false, narrowed := true }
def MigrateSelfUptoSaid : Prop := migrateSelfUptoRow.holds Try.pinned (OpenSpec.upto migrateSelfSpec)

end Rows
end Go.Proofs.Ytdhfhpdadbopkaa
