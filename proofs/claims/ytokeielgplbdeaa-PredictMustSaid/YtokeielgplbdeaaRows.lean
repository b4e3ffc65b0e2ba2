/-
  No cell of these rows narrows 'for every input' (looked for: loops, veiled, ifaces, maps, wideKeys, modest, calm, conditions, laid).
  DERIVED. THE GIVEN ROWS OF THIS SEAT. 6 by the template 'for every input the law returns true; each argument reads behind the call as it read before'; 0 by the template 'total and deterministic' (their statements: YtokeielgplbdeaaTotals.lean).
  GIVEN WITH THE SEED: the statements are not yours to turn. If you find one false, say at which input.
  Laid BY PROGRAM, IN A SANDBOX (cutbox-rows.mjs): the forced cells as the released guide's own fill.sh prints them over the translation e20dbfe492eb4c3a… (all of the seat's roots in one cut). By AI agents, Wed Nov 11 2026. No macro, syntax, notation, axiom, sorry.
-/
import Derived.Test.YtokeielgplbdeaaChecked
import GoSem.Claim
import GoSem.ClaimJoined
import GoSem.ClaimMapViews
import Derived.JoinedTies
import Derived.KernelRfl
namespace Go.Proofs.Ytokeielgplbdeaa
/- THE CELL 'sum', in the pinned program and in every row, IS THE sha256 OF THE DUMP (.gsa) THAT YtokeielgplbdeaaProg.lean LOADS. Nothing in Lean hashes anything: it is a label: what it is worth is what the hold of that sum in a sandbox is worth. -/
noncomputable def Try.pinned : Pinned := { name := "ytokeielgplbdeaa", sum := "e20dbfe492eb4c3a339fc5ce1119ab8b2c81fb90c02021489a4458aae97ea755", checked := Try.checked }
namespace Rows
def none {H : Type} : Left H := { results := [], args := [] }

/-- 'casebooklaw50.PredictWays': WHATEVER THE INPUT: true; the input reads as it did. -/
def predictWaysSpec : ChangeSpec := { name := "predictWays", fn := fun _ => fun
  | [d1, d2, d3, d4] => { results := [.lit (.bool true)], args := [d1, d2, d3, d4] }
  | _ => none }
def predictWaysRow : OpenClaim := { program := "ytokeielgplbdeaa", sum := "e20dbfe492eb4c3a339fc5ce1119ab8b2c81fb90c02021489a4458aae97ea755", func := "casebook/casebooklaw50.PredictWays", spec := "predictWays", unfollowed := true, recurses := true, apart := false }
def PredictWaysSaid : Prop := predictWaysRow.holds Try.pinned (OpenSpec.ofChange predictWaysSpec)

/-- ITS FALSE NEIGHBOUR: 'it returns false'. Refute it at one input. -/
def predictWaysWrong : ChangeSpec := { name := "predictWays", fn := fun _ => fun
  | [d1, d2, d3, d4] => { results := [.lit (.bool false)], args := [d1, d2, d3, d4] }
  | _ => none }
def PredictWaysWrongFalsely : Prop := predictWaysRow.holds Try.pinned (OpenSpec.ofChange predictWaysWrong)

/-- 'casebooklaw50.PredictProgress': WHATEVER THE INPUT: true; the input reads as it did. -/
def predictProgressSpec : ChangeSpec := { name := "predictProgress", fn := fun _ => fun
  | [d1, d2, d3, d4, d5] => { results := [.lit (.bool true)], args := [d1, d2, d3, d4, d5] }
  | _ => none }
def predictProgressRow : OpenClaim := { program := "ytokeielgplbdeaa", sum := "e20dbfe492eb4c3a339fc5ce1119ab8b2c81fb90c02021489a4458aae97ea755", func := "casebook/casebooklaw50.PredictProgress", spec := "predictProgress", unfollowed := true, recurses := true, apart := false }
def PredictProgressSaid : Prop := predictProgressRow.holds Try.pinned (OpenSpec.ofChange predictProgressSpec)

/-- ITS FALSE NEIGHBOUR: 'it returns false'. Refute it at one input. -/
def predictProgressWrong : ChangeSpec := { name := "predictProgress", fn := fun _ => fun
  | [d1, d2, d3, d4, d5] => { results := [.lit (.bool false)], args := [d1, d2, d3, d4, d5] }
  | _ => none }
def PredictProgressWrongFalsely : Prop := predictProgressRow.holds Try.pinned (OpenSpec.ofChange predictProgressWrong)

/-- 'casebooklaw50.PredictMore': WHATEVER THE INPUT: true; the input reads as it did. -/
def predictMoreSpec : ChangeSpec := { name := "predictMore", fn := fun _ => fun
  | [d1, d2, d3, d4, d5, d6, d7] => { results := [.lit (.bool true)], args := [d1, d2, d3, d4, d5, d6, d7] }
  | _ => none }
def predictMoreRow : OpenClaim := { program := "ytokeielgplbdeaa", sum := "e20dbfe492eb4c3a339fc5ce1119ab8b2c81fb90c02021489a4458aae97ea755", func := "casebook/casebooklaw50.PredictMore", spec := "predictMore", unfollowed := true, recurses := true, apart := false }
def PredictMoreSaid : Prop := predictMoreRow.holds Try.pinned (OpenSpec.ofChange predictMoreSpec)

/-- ITS FALSE NEIGHBOUR: 'it returns false'. Refute it at one input. -/
def predictMoreWrong : ChangeSpec := { name := "predictMore", fn := fun _ => fun
  | [d1, d2, d3, d4, d5, d6, d7] => { results := [.lit (.bool false)], args := [d1, d2, d3, d4, d5, d6, d7] }
  | _ => none }
def PredictMoreWrongFalsely : Prop := predictMoreRow.holds Try.pinned (OpenSpec.ofChange predictMoreWrong)

/-- 'casebooklaw50.PredictEnds': WHATEVER THE INPUT: true; the input reads as it did. -/
def predictEndsSpec : ChangeSpec := { name := "predictEnds", fn := fun _ => fun
  | [d1, d2, d3, d4] => { results := [.lit (.bool true)], args := [d1, d2, d3, d4] }
  | _ => none }
def predictEndsRow : OpenClaim := { program := "ytokeielgplbdeaa", sum := "e20dbfe492eb4c3a339fc5ce1119ab8b2c81fb90c02021489a4458aae97ea755", func := "casebook/casebooklaw50.PredictEnds", spec := "predictEnds", unfollowed := true, recurses := true, apart := false }
def PredictEndsSaid : Prop := predictEndsRow.holds Try.pinned (OpenSpec.ofChange predictEndsSpec)

/-- ITS FALSE NEIGHBOUR: 'it returns false'. Refute it at one input. -/
def predictEndsWrong : ChangeSpec := { name := "predictEnds", fn := fun _ => fun
  | [d1, d2, d3, d4] => { results := [.lit (.bool false)], args := [d1, d2, d3, d4] }
  | _ => none }
def PredictEndsWrongFalsely : Prop := predictEndsRow.holds Try.pinned (OpenSpec.ofChange predictEndsWrong)

/-- 'casebooklaw50.PredictBounds': WHATEVER THE INPUT: true; the input reads as it did. -/
def predictBoundsSpec : ChangeSpec := { name := "predictBounds", fn := fun _ => fun
  | [d1, d2, d3, d4, d5] => { results := [.lit (.bool true)], args := [d1, d2, d3, d4, d5] }
  | _ => none }
def predictBoundsRow : OpenClaim := { program := "ytokeielgplbdeaa", sum := "e20dbfe492eb4c3a339fc5ce1119ab8b2c81fb90c02021489a4458aae97ea755", func := "casebook/casebooklaw50.PredictBounds", spec := "predictBounds", unfollowed := true, recurses := true, apart := false }
def PredictBoundsSaid : Prop := predictBoundsRow.holds Try.pinned (OpenSpec.ofChange predictBoundsSpec)

/-- ITS FALSE NEIGHBOUR: 'it returns false'. Refute it at one input. -/
def predictBoundsWrong : ChangeSpec := { name := "predictBounds", fn := fun _ => fun
  | [d1, d2, d3, d4, d5] => { results := [.lit (.bool false)], args := [d1, d2, d3, d4, d5] }
  | _ => none }
def PredictBoundsWrongFalsely : Prop := predictBoundsRow.holds Try.pinned (OpenSpec.ofChange predictBoundsWrong)

/-- 'casebooklaw50.PredictMust': WHATEVER THE INPUT: true; the input reads as it did. -/
def predictMustSpec : ChangeSpec := { name := "predictMust", fn := fun _ => fun
  | [d1, d2, d3] => { results := [.lit (.bool true)], args := [d1, d2, d3] }
  | _ => none }
def predictMustRow : OpenClaim := { program := "ytokeielgplbdeaa", sum := "e20dbfe492eb4c3a339fc5ce1119ab8b2c81fb90c02021489a4458aae97ea755", func := "casebook/casebooklaw50.PredictMust", spec := "predictMust", unfollowed := true, recurses := true, apart := false }
def PredictMustSaid : Prop := predictMustRow.holds Try.pinned (OpenSpec.ofChange predictMustSpec)

/-- ITS FALSE NEIGHBOUR: 'it returns false'. Refute it at one input. -/
def predictMustWrong : ChangeSpec := { name := "predictMust", fn := fun _ => fun
  | [d1, d2, d3] => { results := [.lit (.bool false)], args := [d1, d2, d3] }
  | _ => none }
def PredictMustWrongFalsely : Prop := predictMustRow.holds Try.pinned (OpenSpec.ofChange predictMustWrong)

/- THE SECOND FORM. 'bulk': how many values and letters a reading holds, each counted each time it is reached (what is shared counts as often as it is met; a slice's spare places count too). A statement '..UptoSaid' is the law's where the arguments, and the package variables that the reading takes, are together of bulk at most 1048576: NARROWER than '..Said'. Prove '..Said' where nothing that the law and all that it calls make is longer than what came in: it says more and counts as full. Else prove '..UptoSaid'. A law counts once. -/
mutual
def uptoBulk {H : Type} : DataW H → Nat
  | .lit (.string bytes) => bytes.length + 1
  | .lit _ => 1
  | .nil => 1
  | .ptr d => uptoBulk d + 1
  | .slice elems spare => uptoBulkAll elems + uptoBulkAll spare + 1
  | .agg parts => uptoBulkAll parts + 1
  | .iface _ d => uptoBulk d + 1
  | .map entries => uptoBulkEntries entries + 1
  | .held _ => 1
def uptoBulkAll {H : Type} : List (DataW H) → Nat
  | [] => 0
  | d :: r => uptoBulk d + uptoBulkAll r
def uptoBulkEntries {H : Type} : List (Lit × DataW H) → Nat
  | [] => 0
  | x :: r => uptoBulkEntry x + uptoBulkEntries r
def uptoBulkEntry {H : Type} : Lit × DataW H → Nat
  | (.string bytes, d) => bytes.length + uptoBulk d + 1
  | (_, d) => uptoBulk d + 1
 end
def uptoSmall : (H : Type) → List (DataW H) → Bool := fun _ ds => decide (uptoBulkAll ds ≤ 1048576)
def OpenSpec.upto (s : _root_.Go.ChangeSpec) : _root_.Go.OpenSpec := { _root_.Go.OpenSpec.ofChange s with cond := some uptoSmall }

/-- 'casebooklaw50.PredictWays', WHERE WHAT IT READS IS OF BULK AT MOST 1048576: true; the input reads as it did. -/
def predictWaysUptoRow : OpenClaim := { program := "ytokeielgplbdeaa", sum := "e20dbfe492eb4c3a339fc5ce1119ab8b2c81fb90c02021489a4458aae97ea755", func := "casebook/casebooklaw50.PredictWays", spec := "predictWays", unfollowed := true, recurses := true, apart := false, narrowed := true }
def PredictWaysUptoSaid : Prop := predictWaysUptoRow.holds Try.pinned (OpenSpec.upto predictWaysSpec)

/-- 'casebooklaw50.PredictProgress', WHERE WHAT IT READS IS OF BULK AT MOST 1048576: true; the input reads as it did. -/
def predictProgressUptoRow : OpenClaim := { program := "ytokeielgplbdeaa", sum := "e20dbfe492eb4c3a339fc5ce1119ab8b2c81fb90c02021489a4458aae97ea755", func := "casebook/casebooklaw50.PredictProgress", spec := "predictProgress", unfollowed := true, recurses := true, apart := false, narrowed := true }
def PredictProgressUptoSaid : Prop := predictProgressUptoRow.holds Try.pinned (OpenSpec.upto predictProgressSpec)

/-- 'casebooklaw50.PredictMore', WHERE WHAT IT READS IS OF BULK AT MOST 1048576: true; the input reads as it did. -/
def predictMoreUptoRow : OpenClaim := { program := "ytokeielgplbdeaa", sum := "e20dbfe492eb4c3a339fc5ce1119ab8b2c81fb90c02021489a4458aae97ea755", func := "casebook/casebooklaw50.PredictMore", spec := "predictMore", unfollowed := true, recurses := true, apart := false, narrowed := true }
def PredictMoreUptoSaid : Prop := predictMoreUptoRow.holds Try.pinned (OpenSpec.upto predictMoreSpec)

/-- 'casebooklaw50.PredictEnds', WHERE WHAT IT READS IS OF BULK AT MOST 1048576: true; the input reads as it did. -/
def predictEndsUptoRow : OpenClaim := { program := "ytokeielgplbdeaa", sum := "e20dbfe492eb4c3a339fc5ce1119ab8b2c81fb90c02021489a4458aae97ea755", func := "casebook/casebooklaw50.PredictEnds", spec := "predictEnds", unfollowed := true, recurses := true, apart := false, narrowed := true }
def PredictEndsUptoSaid : Prop := predictEndsUptoRow.holds Try.pinned (OpenSpec.upto predictEndsSpec)

/-- 'casebooklaw50.PredictBounds', WHERE WHAT IT READS IS OF BULK AT MOST 1048576: true; the input reads as it did. -/
def predictBoundsUptoRow : OpenClaim := { program := "ytokeielgplbdeaa", sum := "e20dbfe492eb4c3a339fc5ce1119ab8b2c81fb90c02021489a4458aae97ea755", func := "casebook/casebooklaw50.PredictBounds", spec := "predictBounds", unfollowed := true, recurses := true, apart := false, narrowed := true }
def PredictBoundsUptoSaid : Prop := predictBoundsUptoRow.holds Try.pinned (OpenSpec.upto predictBoundsSpec)

/-- 'casebooklaw50.PredictMust', WHERE WHAT IT READS IS OF BULK AT MOST 1048576: true; the input reads as it did. -/
def predictMustUptoRow : OpenClaim := { program := "ytokeielgplbdeaa", sum := "e20dbfe492eb4c3a339fc5ce1119ab8b2c81fb90c02021489a4458aae97ea755", func := "casebook/casebooklaw50.PredictMust", spec := "predictMust", unfollowed := true, recurses := true, apart := false, narrowed := true }
def PredictMustUptoSaid : Prop := predictMustUptoRow.holds Try.pinned (OpenSpec.upto predictMustSpec)

end Rows
end Go.Proofs.Ytokeielgplbdeaa
