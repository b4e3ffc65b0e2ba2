/-
  No cell of these rows narrows 'for every input' (looked for: loops, veiled, ifaces, maps, wideKeys, modest, calm, conditions, laid).
  DERIVED. THE GIVEN ROWS OF THIS SEAT. 7 by the template 'for every input the law returns true; each argument reads behind the call as it read before'; 0 by the template 'total and deterministic' (their statements: YtjhojmninmipcaaTotals.lean).
  GIVEN WITH THE SEED: the statements are not yours to turn. If you find one false, say at which input.
  Laid BY PROGRAM, IN A SANDBOX (cutbox-rows.mjs): the forced cells as the released guide's own fill.sh prints them over the translation e0b921fc5556e55b… (all of the seat's roots in one cut). By AI agents, Wed Nov 11 2026. No macro, syntax, notation, axiom, sorry.
-/
import Derived.Test.YtjhojmninmipcaaChecked
import GoSem.Claim
import GoSem.ClaimJoined
import GoSem.ClaimMapViews
import Derived.JoinedTies
import Derived.KernelRfl
namespace Go.Proofs.Ytjhojmninmipcaa
/- THE CELL 'sum', in the pinned program and in every row, IS THE sha256 OF THE DUMP (.gsa) THAT YtjhojmninmipcaaProg.lean LOADS. Nothing in Lean hashes anything: it is a label: what it is worth is what the hold of that sum in a sandbox is worth. -/
noncomputable def Try.pinned : Pinned := { name := "ytjhojmninmipcaa", sum := "e0b921fc5556e55b83fbeabb03d47c238cf6ecf0023b409e3ddfd8d4d8bb0137", checked := Try.checked }
namespace Rows
def none {H : Type} : Left H := { results := [], args := [] }

/-- 'casebooklaw25.SiphonMinimal': WHATEVER THE INPUT: true; the input reads as it did. -/
def siphonMinimalSpec : ChangeSpec := { name := "siphonMinimal", fn := fun _ => fun
  | [d] => { results := [.lit (.bool true)], args := [d] }
  | _ => none }
def siphonMinimalRow : OpenClaim := { program := "ytjhojmninmipcaa", sum := "e0b921fc5556e55b83fbeabb03d47c238cf6ecf0023b409e3ddfd8d4d8bb0137", func := "casebook/casebooklaw25.SiphonMinimal", spec := "siphonMinimal", unfollowed := true, recurses := true, apart := false }
def SiphonMinimalSaid : Prop := siphonMinimalRow.holds Try.pinned (OpenSpec.ofChange siphonMinimalSpec)

/-- ITS FALSE NEIGHBOUR: 'it returns false'. Refute it at one input. -/
def siphonMinimalWrong : ChangeSpec := { name := "siphonMinimal", fn := fun _ => fun
  | [d] => { results := [.lit (.bool false)], args := [d] }
  | _ => none }
def SiphonMinimalWrongFalsely : Prop := siphonMinimalRow.holds Try.pinned (OpenSpec.ofChange siphonMinimalWrong)

/-- 'casebooklaw25.SiphonEmptied': WHATEVER THE INPUT: true; the input reads as it did. -/
def siphonEmptiedSpec : ChangeSpec := { name := "siphonEmptied", fn := fun _ => fun
  | [d1, d2, d3, d4] => { results := [.lit (.bool true)], args := [d1, d2, d3, d4] }
  | _ => none }
def siphonEmptiedRow : OpenClaim := { program := "ytjhojmninmipcaa", sum := "e0b921fc5556e55b83fbeabb03d47c238cf6ecf0023b409e3ddfd8d4d8bb0137", func := "casebook/casebooklaw25.SiphonEmptied", spec := "siphonEmptied", unfollowed := true, recurses := true, apart := false }
def SiphonEmptiedSaid : Prop := siphonEmptiedRow.holds Try.pinned (OpenSpec.ofChange siphonEmptiedSpec)

/-- ITS FALSE NEIGHBOUR: 'it returns false'. Refute it at one input. -/
def siphonEmptiedWrong : ChangeSpec := { name := "siphonEmptied", fn := fun _ => fun
  | [d1, d2, d3, d4] => { results := [.lit (.bool false)], args := [d1, d2, d3, d4] }
  | _ => none }
def SiphonEmptiedWrongFalsely : Prop := siphonEmptiedRow.holds Try.pinned (OpenSpec.ofChange siphonEmptiedWrong)

/-- 'casebooklaw25.SiphonCommoner': WHATEVER THE INPUT: true; the input reads as it did. -/
def siphonCommonerSpec : ChangeSpec := { name := "siphonCommoner", fn := fun _ => fun
  | [d1, d2] => { results := [.lit (.bool true)], args := [d1, d2] }
  | _ => none }
def siphonCommonerRow : OpenClaim := { program := "ytjhojmninmipcaa", sum := "e0b921fc5556e55b83fbeabb03d47c238cf6ecf0023b409e3ddfd8d4d8bb0137", func := "casebook/casebooklaw25.SiphonCommoner", spec := "siphonCommoner", unfollowed := true, recurses := true, apart := false }
def SiphonCommonerSaid : Prop := siphonCommonerRow.holds Try.pinned (OpenSpec.ofChange siphonCommonerSpec)

/-- ITS FALSE NEIGHBOUR: 'it returns false'. Refute it at one input. -/
def siphonCommonerWrong : ChangeSpec := { name := "siphonCommoner", fn := fun _ => fun
  | [d1, d2] => { results := [.lit (.bool false)], args := [d1, d2] }
  | _ => none }
def SiphonCommonerWrongFalsely : Prop := siphonCommonerRow.holds Try.pinned (OpenSpec.ofChange siphonCommonerWrong)

/-- 'casebooklaw25.SiphonForms': WHATEVER THE INPUT: true; the input reads as it did. -/
def siphonFormsSpec : ChangeSpec := { name := "siphonForms", fn := fun _ => fun
  | [d1, d2] => { results := [.lit (.bool true)], args := [d1, d2] }
  | _ => none }
def siphonFormsRow : OpenClaim := { program := "ytjhojmninmipcaa", sum := "e0b921fc5556e55b83fbeabb03d47c238cf6ecf0023b409e3ddfd8d4d8bb0137", func := "casebook/casebooklaw25.SiphonForms", spec := "siphonForms", unfollowed := true, recurses := true, apart := false }
def SiphonFormsSaid : Prop := siphonFormsRow.holds Try.pinned (OpenSpec.ofChange siphonFormsSpec)

/-- ITS FALSE NEIGHBOUR: 'it returns false'. Refute it at one input. -/
def siphonFormsWrong : ChangeSpec := { name := "siphonForms", fn := fun _ => fun
  | [d1, d2] => { results := [.lit (.bool false)], args := [d1, d2] }
  | _ => none }
def SiphonFormsWrongFalsely : Prop := siphonFormsRow.holds Try.pinned (OpenSpec.ofChange siphonFormsWrong)

/-- 'casebooklaw25.SiphonGreatest': WHATEVER THE INPUT: true; the input reads as it did. -/
def siphonGreatestSpec : ChangeSpec := { name := "siphonGreatest", fn := fun _ => fun
  | [d1, d2, d3] => { results := [.lit (.bool true)], args := [d1, d2, d3] }
  | _ => none }
def siphonGreatestRow : OpenClaim := { program := "ytjhojmninmipcaa", sum := "e0b921fc5556e55b83fbeabb03d47c238cf6ecf0023b409e3ddfd8d4d8bb0137", func := "casebook/casebooklaw25.SiphonGreatest", spec := "siphonGreatest", unfollowed := true, recurses := true, apart := false }
def SiphonGreatestSaid : Prop := siphonGreatestRow.holds Try.pinned (OpenSpec.ofChange siphonGreatestSpec)

/-- ITS FALSE NEIGHBOUR: 'it returns false'. Refute it at one input. -/
def siphonGreatestWrong : ChangeSpec := { name := "siphonGreatest", fn := fun _ => fun
  | [d1, d2, d3] => { results := [.lit (.bool false)], args := [d1, d2, d3] }
  | _ => none }
def SiphonGreatestWrongFalsely : Prop := siphonGreatestRow.holds Try.pinned (OpenSpec.ofChange siphonGreatestWrong)

/-- 'casebooklaw25.SiphonStays': WHATEVER THE INPUT: true; the input reads as it did. -/
def siphonStaysSpec : ChangeSpec := { name := "siphonStays", fn := fun _ => fun
  | [d1, d2, d3, d4] => { results := [.lit (.bool true)], args := [d1, d2, d3, d4] }
  | _ => none }
def siphonStaysRow : OpenClaim := { program := "ytjhojmninmipcaa", sum := "e0b921fc5556e55b83fbeabb03d47c238cf6ecf0023b409e3ddfd8d4d8bb0137", func := "casebook/casebooklaw25.SiphonStays", spec := "siphonStays", unfollowed := true, recurses := true, apart := false }
def SiphonStaysSaid : Prop := siphonStaysRow.holds Try.pinned (OpenSpec.ofChange siphonStaysSpec)

/-- ITS FALSE NEIGHBOUR: 'it returns false'. Refute it at one input. -/
def siphonStaysWrong : ChangeSpec := { name := "siphonStays", fn := fun _ => fun
  | [d1, d2, d3, d4] => { results := [.lit (.bool false)], args := [d1, d2, d3, d4] }
  | _ => none }
def SiphonStaysWrongFalsely : Prop := siphonStaysRow.holds Try.pinned (OpenSpec.ofChange siphonStaysWrong)

/-- 'casebooklaw25.SiphonDead': WHATEVER THE INPUT: true; the input reads as it did. -/
def siphonDeadSpec : ChangeSpec := { name := "siphonDead", fn := fun _ => fun
  | [d1, d2, d3] => { results := [.lit (.bool true)], args := [d1, d2, d3] }
  | _ => none }
def siphonDeadRow : OpenClaim := { program := "ytjhojmninmipcaa", sum := "e0b921fc5556e55b83fbeabb03d47c238cf6ecf0023b409e3ddfd8d4d8bb0137", func := "casebook/casebooklaw25.SiphonDead", spec := "siphonDead", unfollowed := true, recurses := true, apart := false }
def SiphonDeadSaid : Prop := siphonDeadRow.holds Try.pinned (OpenSpec.ofChange siphonDeadSpec)

/-- ITS FALSE NEIGHBOUR: 'it returns false'. Refute it at one input. -/
def siphonDeadWrong : ChangeSpec := { name := "siphonDead", fn := fun _ => fun
  | [d1, d2, d3] => { results := [.lit (.bool false)], args := [d1, d2, d3] }
  | _ => none }
def SiphonDeadWrongFalsely : Prop := siphonDeadRow.holds Try.pinned (OpenSpec.ofChange siphonDeadWrong)

/- THE SECOND FORM. 'bulk': how many values and letters a reading holds, each counted each time it is reached (what is shared counts as often as it is met; a slice's spare places count too). A statement '..UptoSaid' is the law's where the arguments, and the package variables that the reading takes, are together of bulk at most 1048576: NARROWER than '..Said'. Prove '..Said' where nothing that the law and all that it calls make is longer than what came in: it says more and counts as full. Else prove '..UptoSaid'. A law counts once. -/
mutual
def uptoBulk {H : Type} : DataW H → Nat
  | .lit (.string bytes) => bytes.length + 1
  | .lit _ => 1
  | .nil => 1
  | .ptr d => uptoBulk d + 1
  | .slice elems spare => uptoBulkAll elems + uptoBulkAll spare + 1
  | .agg parts => uptoBulkAll parts + 1
  | .iface _ d => uptoBulk d + 1
  | .map entries => uptoBulkEntries entries + 1
  | .held _ => 1
def uptoBulkAll {H : Type} : List (DataW H) → Nat
  | [] => 0
  | d :: r => uptoBulk d + uptoBulkAll r
def uptoBulkEntries {H : Type} : List (Lit × DataW H) → Nat
  | [] => 0
  | x :: r => uptoBulkEntry x + uptoBulkEntries r
def uptoBulkEntry {H : Type} : Lit × DataW H → Nat
  | (.string bytes, d) => bytes.length + uptoBulk d + 1
  | (_, d) => uptoBulk d + 1
 end
def uptoSmall : (H : Type) → List (DataW H) → Bool := fun _ ds => decide (uptoBulkAll ds ≤ 1048576)
def OpenSpec.upto (s : _root_.Go.ChangeSpec) : _root_.Go.OpenSpec := { _root_.Go.OpenSpec.ofChange s with cond := some uptoSmall }

/-- 'casebooklaw25.SiphonMinimal', WHERE WHAT IT READS IS OF BULK AT MOST 1048576: true; the input reads as it did. -/
def siphonMinimalUptoRow : OpenClaim := { program := "ytjhojmninmipcaa", sum := "e0b921fc5556e55b83fbeabb03d47c238cf6ecf0023b409e3ddfd8d4d8bb0137", func := "casebook/casebooklaw25.SiphonMinimal", spec := "siphonMinimal", unfollowed := true, recurses := true, apart := false, narrowed := true }
def SiphonMinimalUptoSaid : Prop := siphonMinimalUptoRow.holds Try.pinned (OpenSpec.upto siphonMinimalSpec)

/-- 'casebooklaw25.SiphonEmptied', WHERE WHAT IT READS IS OF BULK AT MOST 1048576: true; the input reads as it did. -/
def siphonEmptiedUptoRow : OpenClaim := { program := "ytjhojmninmipcaa", sum := "e0b921fc5556e55b83fbeabb03d47c238cf6ecf0023b409e3ddfd8d4d8bb0137", func := "casebook/casebooklaw25.SiphonEmptied", spec := "siphonEmptied", unfollowed := true, recurses := true, apart := false, narrowed := true }
def SiphonEmptiedUptoSaid : Prop := siphonEmptiedUptoRow.holds Try.pinned (OpenSpec.upto siphonEmptiedSpec)

/-- 'casebooklaw25.SiphonCommoner', WHERE WHAT IT READS IS OF BULK AT MOST 1048576: true; the input reads as it did. -/
def siphonCommonerUptoRow : OpenClaim := { program := "ytjhojmninmipcaa", sum := "e0b921fc5556e55b83fbeabb03d47c238cf6ecf0023b409e3ddfd8d4d8bb0137", func := "casebook/casebooklaw25.SiphonCommoner", spec := "siphonCommoner", unfollowed := true, recurses := true, apart := false, narrowed := true }
def SiphonCommonerUptoSaid : Prop := siphonCommonerUptoRow.holds Try.pinned (OpenSpec.upto siphonCommonerSpec)

/-- 'casebooklaw25.SiphonForms', WHERE WHAT IT READS IS OF BULK AT MOST 1048576: true; the input reads as it did. -/
def siphonFormsUptoRow : OpenClaim := { program := "ytjhojmninmipcaa", sum := "e0b921fc5556e55b83fbeabb03d47c238cf6ecf0023b409e3ddfd8d4d8bb0137", func := "casebook/casebooklaw25.SiphonForms", spec := "siphonForms", unfollowed := true, recurses := true, apart := false, narrowed := true }
def SiphonFormsUptoSaid : Prop := siphonFormsUptoRow.holds Try.pinned (OpenSpec.upto siphonFormsSpec)

/-- 'casebooklaw25.SiphonGreatest', WHERE WHAT IT READS IS OF BULK AT MOST 1048576: true; the input reads as it did. -/
def siphonGreatestUptoRow : OpenClaim := { program := "ytjhojmninmipcaa", sum := "e0b921fc5556e55b83fbeabb03d47c238cf6ecf0023b409e3ddfd8d4d8bb0137", func := "casebook/casebooklaw25.SiphonGreatest", spec := "siphonGreatest", unfollowed := true, recurses := true, apart := false, narrowed := true }
def SiphonGreatestUptoSaid : Prop := siphonGreatestUptoRow.holds Try.pinned (OpenSpec.upto siphonGreatestSpec)

/-- 'casebooklaw25.SiphonStays', WHERE WHAT IT READS IS OF BULK AT MOST 1048576: true; the input reads as it did. -/
def siphonStaysUptoRow : OpenClaim := { program := "ytjhojmninmipcaa", sum := "e0b921fc5556e55b83fbeabb03d47c238cf6ecf0023b409e3ddfd8d4d8bb0137", func := "casebook/casebooklaw25.SiphonStays", spec := "siphonStays", unfollowed := true, recurses := true, apart := false, narrowed := true }
def SiphonStaysUptoSaid : Prop := siphonStaysUptoRow.holds Try.pinned (OpenSpec.upto siphonStaysSpec)

/-- 'casebooklaw25.SiphonDead', WHERE WHAT IT READS IS OF BULK AT MOST 1048576: true; the input reads as it did. -/
def siphonDeadUptoRow : OpenClaim := { program := "ytjhojmninmipcaa", sum := "e0b921fc5556e55b83fbeabb03d47c238cf6ecf0023b409e3ddfd8d4d8bb0137", func := "casebook/casebooklaw25.SiphonDead", spec := "siphonDead", unfollowed := true, recurses := true, apart := false, narrowed := true }
def SiphonDeadUptoSaid : Prop := siphonDeadUptoRow.holds Try.pinned (OpenSpec.upto siphonDeadSpec)

end Rows
end Go.Proofs.Ytjhojmninmipcaa
