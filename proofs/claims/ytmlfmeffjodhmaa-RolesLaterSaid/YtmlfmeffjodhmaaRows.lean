/-
  No cell of these rows narrows 'for every input' (looked for: loops, veiled, ifaces, maps, wideKeys, modest, calm, conditions, laid).
  DERIVED. THE GIVEN ROWS OF THIS SEAT. 6 by the template 'for every input the law returns true; each argument reads behind the call as it read before'; 0 by the template 'total and deterministic' (their statements: YtmlfmeffjodhmaaTotals.lean).
  GIVEN WITH THE SEED: the statements are not yours to turn. If you find one false, say at which input.
  Laid BY PROGRAM, IN A SANDBOX (cutbox-rows.mjs): the forced cells as the released guide's own fill.sh prints them over the translation 4508e83a962e4518… (all of the seat's roots in one cut). By AI agents, Wed Nov 11 2026. No macro, syntax, notation, axiom, sorry.
-/
import Derived.Test.YtmlfmeffjodhmaaChecked
import GoSem.Claim
import GoSem.ClaimJoined
import GoSem.ClaimMapViews
import Derived.JoinedTies
import Derived.KernelRfl
namespace Go.Proofs.Ytmlfmeffjodhmaa
/- THE CELL 'sum', in the pinned program and in every row, IS THE sha256 OF THE DUMP (.gsa) THAT YtmlfmeffjodhmaaProg.lean LOADS. Nothing in Lean hashes anything: it is a label: what it is worth is what the hold of that sum in a sandbox is worth. -/
noncomputable def Try.pinned : Pinned := { name := "ytmlfmeffjodhmaa", sum := "4508e83a962e45189eade7267b56a1024c6366ddd8813d5fc2272732649ae3bb", checked := Try.checked }
namespace Rows
def none {H : Type} : Left H := { results := [], args := [] }

/-- 'casebooklaw46.RolesChecks': WHATEVER THE INPUT: true; the input reads as it did. -/
def rolesChecksSpec : ChangeSpec := { name := "rolesChecks", fn := fun _ => fun
  | [d1, d2, d3, d4, d5, d6] => { results := [.lit (.bool true)], args := [d1, d2, d3, d4, d5, d6] }
  | _ => none }
def rolesChecksRow : OpenClaim := { program := "ytmlfmeffjodhmaa", sum := "4508e83a962e45189eade7267b56a1024c6366ddd8813d5fc2272732649ae3bb", func := "casebook/casebooklaw46.RolesChecks", spec := "rolesChecks", unfollowed := true, recurses := true, apart := false }
def RolesChecksSaid : Prop := rolesChecksRow.holds Try.pinned (OpenSpec.ofChange rolesChecksSpec)

/-- ITS FALSE NEIGHBOUR: 'it returns false'. Refute it at one input. -/
def rolesChecksWrong : ChangeSpec := { name := "rolesChecks", fn := fun _ => fun
  | [d1, d2, d3, d4, d5, d6] => { results := [.lit (.bool false)], args := [d1, d2, d3, d4, d5, d6] }
  | _ => none }
def RolesChecksWrongFalsely : Prop := rolesChecksRow.holds Try.pinned (OpenSpec.ofChange rolesChecksWrong)

/-- 'casebooklaw46.RolesHave': WHATEVER THE INPUT: true; the input reads as it did. -/
def rolesHaveSpec : ChangeSpec := { name := "rolesHave", fn := fun _ => fun
  | [d1, d2, d3, d4, d5, d6] => { results := [.lit (.bool true)], args := [d1, d2, d3, d4, d5, d6] }
  | _ => none }
def rolesHaveRow : OpenClaim := { program := "ytmlfmeffjodhmaa", sum := "4508e83a962e45189eade7267b56a1024c6366ddd8813d5fc2272732649ae3bb", func := "casebook/casebooklaw46.RolesHave", spec := "rolesHave", unfollowed := true, recurses := true, apart := false }
def RolesHaveSaid : Prop := rolesHaveRow.holds Try.pinned (OpenSpec.ofChange rolesHaveSpec)

/-- ITS FALSE NEIGHBOUR: 'it returns false'. Refute it at one input. -/
def rolesHaveWrong : ChangeSpec := { name := "rolesHave", fn := fun _ => fun
  | [d1, d2, d3, d4, d5, d6] => { results := [.lit (.bool false)], args := [d1, d2, d3, d4, d5, d6] }
  | _ => none }
def RolesHaveWrongFalsely : Prop := rolesHaveRow.holds Try.pinned (OpenSpec.ofChange rolesHaveWrong)

/-- 'casebooklaw46.RolesDuties': WHATEVER THE INPUT: true; the input reads as it did. -/
def rolesDutiesSpec : ChangeSpec := { name := "rolesDuties", fn := fun _ => fun
  | [d1, d2, d3, d4, d5, d6] => { results := [.lit (.bool true)], args := [d1, d2, d3, d4, d5, d6] }
  | _ => none }
def rolesDutiesRow : OpenClaim := { program := "ytmlfmeffjodhmaa", sum := "4508e83a962e45189eade7267b56a1024c6366ddd8813d5fc2272732649ae3bb", func := "casebook/casebooklaw46.RolesDuties", spec := "rolesDuties", unfollowed := true, recurses := true, apart := false }
def RolesDutiesSaid : Prop := rolesDutiesRow.holds Try.pinned (OpenSpec.ofChange rolesDutiesSpec)

/-- ITS FALSE NEIGHBOUR: 'it returns false'. Refute it at one input. -/
def rolesDutiesWrong : ChangeSpec := { name := "rolesDuties", fn := fun _ => fun
  | [d1, d2, d3, d4, d5, d6] => { results := [.lit (.bool false)], args := [d1, d2, d3, d4, d5, d6] }
  | _ => none }
def RolesDutiesWrongFalsely : Prop := rolesDutiesRow.holds Try.pinned (OpenSpec.ofChange rolesDutiesWrong)

/-- 'casebooklaw46.RolesLater': WHATEVER THE INPUT: true; the input reads as it did. -/
def rolesLaterSpec : ChangeSpec := { name := "rolesLater", fn := fun _ => fun
  | [d1, d2, d3, d4, d5, d6, d7, d8] => { results := [.lit (.bool true)], args := [d1, d2, d3, d4, d5, d6, d7, d8] }
  | _ => none }
def rolesLaterRow : OpenClaim := { program := "ytmlfmeffjodhmaa", sum := "4508e83a962e45189eade7267b56a1024c6366ddd8813d5fc2272732649ae3bb", func := "casebook/casebooklaw46.RolesLater", spec := "rolesLater", unfollowed := true, recurses := true, apart := false }
def RolesLaterSaid : Prop := rolesLaterRow.holds Try.pinned (OpenSpec.ofChange rolesLaterSpec)

/-- ITS FALSE NEIGHBOUR: 'it returns false'. Refute it at one input. -/
def rolesLaterWrong : ChangeSpec := { name := "rolesLater", fn := fun _ => fun
  | [d1, d2, d3, d4, d5, d6, d7, d8] => { results := [.lit (.bool false)], args := [d1, d2, d3, d4, d5, d6, d7, d8] }
  | _ => none }
def RolesLaterWrongFalsely : Prop := rolesLaterRow.holds Try.pinned (OpenSpec.ofChange rolesLaterWrong)

/-- 'casebooklaw46.RolesAssigns': WHATEVER THE INPUT: true; the input reads as it did. -/
def rolesAssignsSpec : ChangeSpec := { name := "rolesAssigns", fn := fun _ => fun
  | [d1, d2, d3, d4, d5] => { results := [.lit (.bool true)], args := [d1, d2, d3, d4, d5] }
  | _ => none }
def rolesAssignsRow : OpenClaim := { program := "ytmlfmeffjodhmaa", sum := "4508e83a962e45189eade7267b56a1024c6366ddd8813d5fc2272732649ae3bb", func := "casebook/casebooklaw46.RolesAssigns", spec := "rolesAssigns", unfollowed := true, recurses := true, apart := false }
def RolesAssignsSaid : Prop := rolesAssignsRow.holds Try.pinned (OpenSpec.ofChange rolesAssignsSpec)

/-- ITS FALSE NEIGHBOUR: 'it returns false'. Refute it at one input. -/
def rolesAssignsWrong : ChangeSpec := { name := "rolesAssigns", fn := fun _ => fun
  | [d1, d2, d3, d4, d5] => { results := [.lit (.bool false)], args := [d1, d2, d3, d4, d5] }
  | _ => none }
def RolesAssignsWrongFalsely : Prop := rolesAssignsRow.holds Try.pinned (OpenSpec.ofChange rolesAssignsWrong)

/-- 'casebooklaw46.RolesEither': WHATEVER THE INPUT: true; the input reads as it did. -/
def rolesEitherSpec : ChangeSpec := { name := "rolesEither", fn := fun _ => fun
  | [d1, d2, d3, d4, d5] => { results := [.lit (.bool true)], args := [d1, d2, d3, d4, d5] }
  | _ => none }
def rolesEitherRow : OpenClaim := { program := "ytmlfmeffjodhmaa", sum := "4508e83a962e45189eade7267b56a1024c6366ddd8813d5fc2272732649ae3bb", func := "casebook/casebooklaw46.RolesEither", spec := "rolesEither", unfollowed := true, recurses := true, apart := false }
def RolesEitherSaid : Prop := rolesEitherRow.holds Try.pinned (OpenSpec.ofChange rolesEitherSpec)

/-- ITS FALSE NEIGHBOUR: 'it returns false'. Refute it at one input. -/
def rolesEitherWrong : ChangeSpec := { name := "rolesEither", fn := fun _ => fun
  | [d1, d2, d3, d4, d5] => { results := [.lit (.bool false)], args := [d1, d2, d3, d4, d5] }
  | _ => none }
def RolesEitherWrongFalsely : Prop := rolesEitherRow.holds Try.pinned (OpenSpec.ofChange rolesEitherWrong)

/- THE SECOND FORM. 'bulk': how many values and letters a reading holds, each counted each time it is reached (what is shared counts as often as it is met; a slice's spare places count too). A statement '..UptoSaid' is the law's where the arguments, and the package variables that the reading takes, are together of bulk at most 1048576: NARROWER than '..Said'. Prove '..Said' where nothing that the law and all that it calls make is longer than what came in: it says more and counts as full. Else prove '..UptoSaid'. A law counts once. -/
mutual
def uptoBulk {H : Type} : DataW H → Nat
  | .lit (.string bytes) => bytes.length + 1
  | .lit _ => 1
  | .nil => 1
  | .ptr d => uptoBulk d + 1
  | .slice elems spare => uptoBulkAll elems + uptoBulkAll spare + 1
  | .agg parts => uptoBulkAll parts + 1
  | .iface _ d => uptoBulk d + 1
  | .map entries => uptoBulkEntries entries + 1
  | .held _ => 1
def uptoBulkAll {H : Type} : List (DataW H) → Nat
  | [] => 0
  | d :: r => uptoBulk d + uptoBulkAll r
def uptoBulkEntries {H : Type} : List (Lit × DataW H) → Nat
  | [] => 0
  | x :: r => uptoBulkEntry x + uptoBulkEntries r
def uptoBulkEntry {H : Type} : Lit × DataW H → Nat
  | (.string bytes, d) => bytes.length + uptoBulk d + 1
  | (_, d) => uptoBulk d + 1
 end
def uptoSmall : (H : Type) → List (DataW H) → Bool := fun _ ds => decide (uptoBulkAll ds ≤ 1048576)
def OpenSpec.upto (s : _root_.Go.ChangeSpec) : _root_.Go.OpenSpec := { _root_.Go.OpenSpec.ofChange s with cond := some uptoSmall }

/-- 'casebooklaw46.RolesChecks', WHERE WHAT IT READS IS OF BULK AT MOST 1048576: true; the input reads as it did. -/
def rolesChecksUptoRow : OpenClaim := { program := "ytmlfmeffjodhmaa", sum := "4508e83a962e45189eade7267b56a1024c6366ddd8813d5fc2272732649ae3bb", func := "casebook/casebooklaw46.RolesChecks", spec := "rolesChecks", unfollowed := true, recurses := true, apart := false, narrowed := true }
def RolesChecksUptoSaid : Prop := rolesChecksUptoRow.holds Try.pinned (OpenSpec.upto rolesChecksSpec)

/-- 'casebooklaw46.RolesHave', WHERE WHAT IT READS IS OF BULK AT MOST 1048576: true; the input reads as it did. -/
def rolesHaveUptoRow : OpenClaim := { program := "ytmlfmeffjodhmaa", sum := "4508e83a962e45189eade7267b56a1024c6366ddd8813d5fc2272732649ae3bb", func := "casebook/casebooklaw46.RolesHave", spec := "rolesHave", unfollowed := true, recurses := true, apart := false, narrowed := true }
def RolesHaveUptoSaid : Prop := rolesHaveUptoRow.holds Try.pinned (OpenSpec.upto rolesHaveSpec)

/-- 'casebooklaw46.RolesDuties', WHERE WHAT IT READS IS OF BULK AT MOST 1048576: true; the input reads as it did. -/
def rolesDutiesUptoRow : OpenClaim := { program := "ytmlfmeffjodhmaa", sum := "4508e83a962e45189eade7267b56a1024c6366ddd8813d5fc2272732649ae3bb", func := "casebook/casebooklaw46.RolesDuties", spec := "rolesDuties", unfollowed := true, recurses := true, apart := false, narrowed := true }
def RolesDutiesUptoSaid : Prop := rolesDutiesUptoRow.holds Try.pinned (OpenSpec.upto rolesDutiesSpec)

/-- 'casebooklaw46.RolesLater', WHERE WHAT IT READS IS OF BULK AT MOST 1048576: true; the input reads as it did. -/
def rolesLaterUptoRow : OpenClaim := { program := "ytmlfmeffjodhmaa", sum := "4508e83a962e45189eade7267b56a1024c6366ddd8813d5fc2272732649ae3bb", func := "casebook/casebooklaw46.RolesLater", spec := "rolesLater", unfollowed := true, recurses := true, apart := false, narrowed := true }
def RolesLaterUptoSaid : Prop := rolesLaterUptoRow.holds Try.pinned (OpenSpec.upto rolesLaterSpec)

/-- 'casebooklaw46.RolesAssigns', WHERE WHAT IT READS IS OF BULK AT MOST 1048576: true; the input reads as it did. -/
def rolesAssignsUptoRow : OpenClaim := { program := "ytmlfmeffjodhmaa", sum := "4508e83a962e45189eade7267b56a1024c6366ddd8813d5fc2272732649ae3bb", func := "casebook/casebooklaw46.RolesAssigns", spec := "rolesAssigns", unfollowed := true, recurses := true, apart := false, narrowed := true }
def RolesAssignsUptoSaid : Prop := rolesAssignsUptoRow.holds Try.pinned (OpenSpec.upto rolesAssignsSpec)

/-- 'casebooklaw46.RolesEither', WHERE WHAT IT READS IS OF BULK AT MOST 1048576: true; the input reads as it did. -/
def rolesEitherUptoRow : OpenClaim := { program := "ytmlfmeffjodhmaa", sum := "4508e83a962e45189eade7267b56a1024c6366ddd8813d5fc2272732649ae3bb", func := "casebook/casebooklaw46.RolesEither", spec := "rolesEither", unfollowed := true, recurses := true, apart := false, narrowed := true }
def RolesEitherUptoSaid : Prop := rolesEitherUptoRow.holds Try.pinned (OpenSpec.upto rolesEitherSpec)

end Rows
end Go.Proofs.Ytmlfmeffjodhmaa
