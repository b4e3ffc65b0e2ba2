/-
  No cell of these rows narrows 'for every input' (looked for: loops, veiled, ifaces, maps, wideKeys, modest, calm, conditions, laid).
  DERIVED. THE GIVEN ROWS OF THIS SEAT. 8 by the template 'for every input the law returns true; each argument reads behind the call as it read before'; 0 by the template 'total and deterministic' (their statements: YtocpeankecaabaaTotals.lean).
  GIVEN WITH THE SEED: the statements are not yours to turn. If you find one false, say at which input.
  Laid BY PROGRAM, IN A SANDBOX (cutbox-rows.mjs): the forced cells as the released guide's own fill.sh prints them over the translation b205be95fb03438e… (all of the seat's roots in one cut). By AI agents, Wed Nov 11 2026. No macro, syntax, notation, axiom, sorry.
-/
import Derived.Test.YtocpeankecaabaaChecked
import GoSem.Claim
import GoSem.ClaimJoined
import GoSem.ClaimMapViews
import Derived.JoinedTies
import Derived.KernelRfl
namespace Go.Proofs.Ytocpeankecaabaa
/- THE CELL 'sum', in the pinned program and in every row, IS THE sha256 OF THE DUMP (.gsa) THAT YtocpeankecaabaaProg.lean LOADS. Nothing in Lean hashes anything: it is a label: what it is worth is what the hold of that sum in a sandbox is worth. -/
noncomputable def Try.pinned : Pinned := { name := "ytocpeankecaabaa", sum := "b205be95fb03438ec02875b53f2da72cc9bb1a2cc1ebdf36574b053ce0dc3f82", checked := Try.checked }
namespace Rows
def none {H : Type} : Left H := { results := [], args := [] }

/-- 'casebooklaw53.SimulateBusy': WHATEVER THE INPUT: true; the input reads as it did. -/
def simulateBusySpec : ChangeSpec := { name := "simulateBusy", fn := fun _ => fun
  | [d1, d2] => { results := [.lit (.bool true)], args := [d1, d2] }
  | _ => none }
def simulateBusyRow : OpenClaim := { program := "ytocpeankecaabaa", sum := "b205be95fb03438ec02875b53f2da72cc9bb1a2cc1ebdf36574b053ce0dc3f82", func := "casebook/casebooklaw53.SimulateBusy", spec := "simulateBusy", unfollowed := true, recurses := true, apart := false }
def SimulateBusySaid : Prop := simulateBusyRow.holds Try.pinned (OpenSpec.ofChange simulateBusySpec)

/-- ITS FALSE NEIGHBOUR: 'it returns false'. Refute it at one input. -/
def simulateBusyWrong : ChangeSpec := { name := "simulateBusy", fn := fun _ => fun
  | [d1, d2] => { results := [.lit (.bool false)], args := [d1, d2] }
  | _ => none }
def SimulateBusyWrongFalsely : Prop := simulateBusyRow.holds Try.pinned (OpenSpec.ofChange simulateBusyWrong)

/-- 'casebooklaw53.SimulateShorter': WHATEVER THE INPUT: true; the input reads as it did. -/
def simulateShorterSpec : ChangeSpec := { name := "simulateShorter", fn := fun _ => fun
  | [d1, d2, d3] => { results := [.lit (.bool true)], args := [d1, d2, d3] }
  | _ => none }
def simulateShorterRow : OpenClaim := { program := "ytocpeankecaabaa", sum := "b205be95fb03438ec02875b53f2da72cc9bb1a2cc1ebdf36574b053ce0dc3f82", func := "casebook/casebooklaw53.SimulateShorter", spec := "simulateShorter", unfollowed := true, recurses := true, apart := false }
def SimulateShorterSaid : Prop := simulateShorterRow.holds Try.pinned (OpenSpec.ofChange simulateShorterSpec)

/-- ITS FALSE NEIGHBOUR: 'it returns false'. Refute it at one input. -/
def simulateShorterWrong : ChangeSpec := { name := "simulateShorter", fn := fun _ => fun
  | [d1, d2, d3] => { results := [.lit (.bool false)], args := [d1, d2, d3] }
  | _ => none }
def SimulateShorterWrongFalsely : Prop := simulateShorterRow.holds Try.pinned (OpenSpec.ofChange simulateShorterWrong)

/-- 'casebooklaw53.SimulateServes': WHATEVER THE INPUT: true; the input reads as it did. -/
def simulateServesSpec : ChangeSpec := { name := "simulateServes", fn := fun _ => fun
  | [d1, d2] => { results := [.lit (.bool true)], args := [d1, d2] }
  | _ => none }
def simulateServesRow : OpenClaim := { program := "ytocpeankecaabaa", sum := "b205be95fb03438ec02875b53f2da72cc9bb1a2cc1ebdf36574b053ce0dc3f82", func := "casebook/casebooklaw53.SimulateServes", spec := "simulateServes", unfollowed := true, recurses := true, apart := false }
def SimulateServesSaid : Prop := simulateServesRow.holds Try.pinned (OpenSpec.ofChange simulateServesSpec)

/-- ITS FALSE NEIGHBOUR: 'it returns false'. Refute it at one input. -/
def simulateServesWrong : ChangeSpec := { name := "simulateServes", fn := fun _ => fun
  | [d1, d2] => { results := [.lit (.bool false)], args := [d1, d2] }
  | _ => none }
def SimulateServesWrongFalsely : Prop := simulateServesRow.holds Try.pinned (OpenSpec.ofChange simulateServesWrong)

/-- 'casebooklaw53.SimulateCalendars': WHATEVER THE INPUT: true; the input reads as it did. -/
def simulateCalendarsSpec : ChangeSpec := { name := "simulateCalendars", fn := fun _ => fun
  | [d1, d2, d3] => { results := [.lit (.bool true)], args := [d1, d2, d3] }
  | _ => none }
def simulateCalendarsRow : OpenClaim := { program := "ytocpeankecaabaa", sum := "b205be95fb03438ec02875b53f2da72cc9bb1a2cc1ebdf36574b053ce0dc3f82", func := "casebook/casebooklaw53.SimulateCalendars", spec := "simulateCalendars", unfollowed := true, recurses := true, apart := false }
def SimulateCalendarsSaid : Prop := simulateCalendarsRow.holds Try.pinned (OpenSpec.ofChange simulateCalendarsSpec)

/-- ITS FALSE NEIGHBOUR: 'it returns false'. Refute it at one input. -/
def simulateCalendarsWrong : ChangeSpec := { name := "simulateCalendars", fn := fun _ => fun
  | [d1, d2, d3] => { results := [.lit (.bool false)], args := [d1, d2, d3] }
  | _ => none }
def SimulateCalendarsWrongFalsely : Prop := simulateCalendarsRow.holds Try.pinned (OpenSpec.ofChange simulateCalendarsWrong)

/-- 'casebooklaw53.SimulateAlways': WHATEVER THE INPUT: true; the input reads as it did. -/
def simulateAlwaysSpec : ChangeSpec := { name := "simulateAlways", fn := fun _ => fun
  | [d1, d2, d3] => { results := [.lit (.bool true)], args := [d1, d2, d3] }
  | _ => none }
def simulateAlwaysRow : OpenClaim := { program := "ytocpeankecaabaa", sum := "b205be95fb03438ec02875b53f2da72cc9bb1a2cc1ebdf36574b053ce0dc3f82", func := "casebook/casebooklaw53.SimulateAlways", spec := "simulateAlways", unfollowed := true, recurses := true, apart := false }
def SimulateAlwaysSaid : Prop := simulateAlwaysRow.holds Try.pinned (OpenSpec.ofChange simulateAlwaysSpec)

/-- ITS FALSE NEIGHBOUR: 'it returns false'. Refute it at one input. -/
def simulateAlwaysWrong : ChangeSpec := { name := "simulateAlways", fn := fun _ => fun
  | [d1, d2, d3] => { results := [.lit (.bool false)], args := [d1, d2, d3] }
  | _ => none }
def SimulateAlwaysWrongFalsely : Prop := simulateAlwaysRow.holds Try.pinned (OpenSpec.ofChange simulateAlwaysWrong)

/-- 'casebooklaw53.SimulateCustomers': WHATEVER THE INPUT: true; the input reads as it did. -/
def simulateCustomersSpec : ChangeSpec := { name := "simulateCustomers", fn := fun _ => fun
  | [d1, d2, d3, d4] => { results := [.lit (.bool true)], args := [d1, d2, d3, d4] }
  | _ => none }
def simulateCustomersRow : OpenClaim := { program := "ytocpeankecaabaa", sum := "b205be95fb03438ec02875b53f2da72cc9bb1a2cc1ebdf36574b053ce0dc3f82", func := "casebook/casebooklaw53.SimulateCustomers", spec := "simulateCustomers", unfollowed := true, recurses := true, apart := false }
def SimulateCustomersSaid : Prop := simulateCustomersRow.holds Try.pinned (OpenSpec.ofChange simulateCustomersSpec)

/-- ITS FALSE NEIGHBOUR: 'it returns false'. Refute it at one input. -/
def simulateCustomersWrong : ChangeSpec := { name := "simulateCustomers", fn := fun _ => fun
  | [d1, d2, d3, d4] => { results := [.lit (.bool false)], args := [d1, d2, d3, d4] }
  | _ => none }
def SimulateCustomersWrongFalsely : Prop := simulateCustomersRow.holds Try.pinned (OpenSpec.ofChange simulateCustomersWrong)

/-- 'casebooklaw53.SimulateMore': WHATEVER THE INPUT: true; the input reads as it did. -/
def simulateMoreSpec : ChangeSpec := { name := "simulateMore", fn := fun _ => fun
  | [d1, d2, d3, d4, d5, d6, d7] => { results := [.lit (.bool true)], args := [d1, d2, d3, d4, d5, d6, d7] }
  | _ => none }
def simulateMoreRow : OpenClaim := { program := "ytocpeankecaabaa", sum := "b205be95fb03438ec02875b53f2da72cc9bb1a2cc1ebdf36574b053ce0dc3f82", func := "casebook/casebooklaw53.SimulateMore", spec := "simulateMore", unfollowed := true, recurses := true, apart := false }
def SimulateMoreSaid : Prop := simulateMoreRow.holds Try.pinned (OpenSpec.ofChange simulateMoreSpec)

/-- ITS FALSE NEIGHBOUR: 'it returns false'. Refute it at one input. -/
def simulateMoreWrong : ChangeSpec := { name := "simulateMore", fn := fun _ => fun
  | [d1, d2, d3, d4, d5, d6, d7] => { results := [.lit (.bool false)], args := [d1, d2, d3, d4, d5, d6, d7] }
  | _ => none }
def SimulateMoreWrongFalsely : Prop := simulateMoreRow.holds Try.pinned (OpenSpec.ofChange simulateMoreWrong)

/-- 'casebooklaw53.SimulateReplicates': WHATEVER THE INPUT: true; the input reads as it did. -/
def simulateReplicatesSpec : ChangeSpec := { name := "simulateReplicates", fn := fun _ => fun
  | [d] => { results := [.lit (.bool true)], args := [d] }
  | _ => none }
def simulateReplicatesRow : OpenClaim := { program := "ytocpeankecaabaa", sum := "b205be95fb03438ec02875b53f2da72cc9bb1a2cc1ebdf36574b053ce0dc3f82", func := "casebook/casebooklaw53.SimulateReplicates", spec := "simulateReplicates", unfollowed := true, recurses := true, apart := false }
def SimulateReplicatesSaid : Prop := simulateReplicatesRow.holds Try.pinned (OpenSpec.ofChange simulateReplicatesSpec)

/-- ITS FALSE NEIGHBOUR: 'it returns false'. Refute it at one input. -/
def simulateReplicatesWrong : ChangeSpec := { name := "simulateReplicates", fn := fun _ => fun
  | [d] => { results := [.lit (.bool false)], args := [d] }
  | _ => none }
def SimulateReplicatesWrongFalsely : Prop := simulateReplicatesRow.holds Try.pinned (OpenSpec.ofChange simulateReplicatesWrong)

/- THE SECOND FORM. 'bulk': how many values and letters a reading holds, each counted each time it is reached (what is shared counts as often as it is met; a slice's spare places count too). A statement '..UptoSaid' is the law's where the arguments, and the package variables that the reading takes, are together of bulk at most 1048576: NARROWER than '..Said'. Prove '..Said' where nothing that the law and all that it calls make is longer than what came in: it says more and counts as full. Else prove '..UptoSaid'. A law counts once. -/
mutual
def uptoBulk {H : Type} : DataW H → Nat
  | .lit (.string bytes) => bytes.length + 1
  | .lit _ => 1
  | .nil => 1
  | .ptr d => uptoBulk d + 1
  | .slice elems spare => uptoBulkAll elems + uptoBulkAll spare + 1
  | .agg parts => uptoBulkAll parts + 1
  | .iface _ d => uptoBulk d + 1
  | .map entries => uptoBulkEntries entries + 1
  | .held _ => 1
def uptoBulkAll {H : Type} : List (DataW H) → Nat
  | [] => 0
  | d :: r => uptoBulk d + uptoBulkAll r
def uptoBulkEntries {H : Type} : List (Lit × DataW H) → Nat
  | [] => 0
  | x :: r => uptoBulkEntry x + uptoBulkEntries r
def uptoBulkEntry {H : Type} : Lit × DataW H → Nat
  | (.string bytes, d) => bytes.length + uptoBulk d + 1
  | (_, d) => uptoBulk d + 1
 end
def uptoSmall : (H : Type) → List (DataW H) → Bool := fun _ ds => decide (uptoBulkAll ds ≤ 1048576)
def OpenSpec.upto (s : _root_.Go.ChangeSpec) : _root_.Go.OpenSpec := { _root_.Go.OpenSpec.ofChange s with cond := some uptoSmall }

/-- 'casebooklaw53.SimulateBusy', WHERE WHAT IT READS IS OF BULK AT MOST 1048576: true; the input reads as it did. -/
def simulateBusyUptoRow : OpenClaim := { program := "ytocpeankecaabaa", sum := "b205be95fb03438ec02875b53f2da72cc9bb1a2cc1ebdf36574b053ce0dc3f82", func := "casebook/casebooklaw53.SimulateBusy", spec := "simulateBusy", unfollowed := true, recurses := true, apart := false, narrowed := true }
def SimulateBusyUptoSaid : Prop := simulateBusyUptoRow.holds Try.pinned (OpenSpec.upto simulateBusySpec)

/-- 'casebooklaw53.SimulateShorter', WHERE WHAT IT READS IS OF BULK AT MOST 1048576: true; the input reads as it did. -/
def simulateShorterUptoRow : OpenClaim := { program := "ytocpeankecaabaa", sum := "b205be95fb03438ec02875b53f2da72cc9bb1a2cc1ebdf36574b053ce0dc3f82", func := "casebook/casebooklaw53.SimulateShorter", spec := "simulateShorter", unfollowed := true, recurses := true, apart := false, narrowed := true }
def SimulateShorterUptoSaid : Prop := simulateShorterUptoRow.holds Try.pinned (OpenSpec.upto simulateShorterSpec)

/-- 'casebooklaw53.SimulateServes', WHERE WHAT IT READS IS OF BULK AT MOST 1048576: true; the input reads as it did. -/
def simulateServesUptoRow : OpenClaim := { program := "ytocpeankecaabaa", sum := "b205be95fb03438ec02875b53f2da72cc9bb1a2cc1ebdf36574b053ce0dc3f82", func := "casebook/casebooklaw53.SimulateServes", spec := "simulateServes", unfollowed := true, recurses := true, apart := false, narrowed := true }
def SimulateServesUptoSaid : Prop := simulateServesUptoRow.holds Try.pinned (OpenSpec.upto simulateServesSpec)

/-- 'casebooklaw53.SimulateCalendars', WHERE WHAT IT READS IS OF BULK AT MOST 1048576: true; the input reads as it did. -/
def simulateCalendarsUptoRow : OpenClaim := { program := "ytocpeankecaabaa", sum := "b205be95fb03438ec02875b53f2da72cc9bb1a2cc1ebdf36574b053ce0dc3f82", func := "casebook/casebooklaw53.SimulateCalendars", spec := "simulateCalendars", unfollowed := true, recurses := true, apart := false, narrowed := true }
def SimulateCalendarsUptoSaid : Prop := simulateCalendarsUptoRow.holds Try.pinned (OpenSpec.upto simulateCalendarsSpec)

/-- 'casebooklaw53.SimulateAlways', WHERE WHAT IT READS IS OF BULK AT MOST 1048576: true; the input reads as it did. -/
def simulateAlwaysUptoRow : OpenClaim := { program := "ytocpeankecaabaa", sum := "b205be95fb03438ec02875b53f2da72cc9bb1a2cc1ebdf36574b053ce0dc3f82", func := "casebook/casebooklaw53.SimulateAlways", spec := "simulateAlways", unfollowed := true, recurses := true, apart := false, narrowed := true }
def SimulateAlwaysUptoSaid : Prop := simulateAlwaysUptoRow.holds Try.pinned (OpenSpec.upto simulateAlwaysSpec)

/-- 'casebooklaw53.SimulateCustomers', WHERE WHAT IT READS IS OF BULK AT MOST 1048576: true; the input reads as it did. -/
def simulateCustomersUptoRow : OpenClaim := { program := "ytocpeankecaabaa", sum := "b205be95fb03438ec02875b53f2da72cc9bb1a2cc1ebdf36574b053ce0dc3f82", func := "casebook/casebooklaw53.SimulateCustomers", spec := "simulateCustomers", unfollowed := true, recurses := true, apart := false, narrowed := true }
def SimulateCustomersUptoSaid : Prop := simulateCustomersUptoRow.holds Try.pinned (OpenSpec.upto simulateCustomersSpec)

/-- 'casebooklaw53.SimulateMore', WHERE WHAT IT READS IS OF BULK AT MOST 1048576: true; the input reads as it did. -/
def simulateMoreUptoRow : OpenClaim := { program := "ytocpeankecaabaa", sum := "b205be95fb03438ec02875b53f2da72cc9bb1a2cc1ebdf36574b053ce0dc3f82", func := "casebook/casebooklaw53.SimulateMore", spec := "simulateMore", unfollowed := true, recurses := true, apart := false, narrowed := true }
def SimulateMoreUptoSaid : Prop := simulateMoreUptoRow.holds Try.pinned (OpenSpec.upto simulateMoreSpec)

/-- 'casebooklaw53.SimulateReplicates', WHERE WHAT IT READS IS OF BULK AT MOST 1048576: true; the input reads as it did. -/
def simulateReplicatesUptoRow : OpenClaim := { program := "ytocpeankecaabaa", sum := "b205be95fb03438ec02875b53f2da72cc9bb1a2cc1ebdf36574b053ce0dc3f82", func := "casebook/casebooklaw53.SimulateReplicates", spec := "simulateReplicates", unfollowed := true, recurses := true, apart := false, narrowed := true }
def SimulateReplicatesUptoSaid : Prop := simulateReplicatesUptoRow.holds Try.pinned (OpenSpec.upto simulateReplicatesSpec)

end Rows
end Go.Proofs.Ytocpeankecaabaa
