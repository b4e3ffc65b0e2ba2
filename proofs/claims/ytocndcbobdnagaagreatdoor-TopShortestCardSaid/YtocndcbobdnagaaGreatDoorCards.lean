/-
  DERIVED. GIVEN WITH THE SEED: THE CARDS: each row of YtocndcbobdnagaaGreatDoorRows.lean that lists a variable, with what it lists TIED to the program's text (the seventh form; the later family's looks); each row that meets fmt, with fmt's text TOLD by the authors' own Lean function (tested against real Go, not proved from fmt's source: count such statements apart). THE CARD IS WHAT COUNTS. Prove the row's statement (the work); the ties are given (YtocndcbobdnagaaGreatDoorTie.lean); close each card by the builder's one call (the guide's Derived/Test/ToyasCard.lean, 'card_holds'). Laid BY PROGRAM, IN A SANDBOX (cutbox-door.mjs). By AI agents, Wed Nov 11 2026. No macro, syntax, notation, axiom, sorry.
-/
import Derived.Test.YtocndcbobdnagaaGreatDoorRows
import GoSem.ClaimSeven
namespace Go.Proofs.YtocndcbobdnagaaGreatDoor
namespace Rows

/-- THE TIED CARD OF 'casebooktop.TopShortest'. -/
def topShortestCard : Claim7 := { stood := { row := topShortestRow, standIns := [], harness := (true, "567d73b15fcdfc99963fede18d9ac99567ef68922a4f06f6025a33017c863157"), looks := true }, kinds := [], alts := [], laidByText := true, laidKinds := [.data, .data, .data], laidTests := true, laidLooks := .later }
def TopShortestCardSaid : Prop := Claim7.holds Tryz.pinned (.plain (OpenSpec.ofChange topShortestSpec)) topShortestCard

/-- THE SECOND FORM's CARD OF 'casebooktop.TopShortest'. -/
def topShortestUptoCard : Claim7 := { stood := { row := topShortestUptoRow, standIns := [], harness := (true, "567d73b15fcdfc99963fede18d9ac99567ef68922a4f06f6025a33017c863157"), looks := true }, kinds := [], alts := [], laidByText := true, laidKinds := [.data, .data, .data], laidTests := true, laidLooks := .later }
def TopShortestUptoCardSaid : Prop := Claim7.holds Tryz.pinned (.plain (OpenSpec.upto topShortestSpec)) topShortestUptoCard
end Rows
end Go.Proofs.YtocndcbobdnagaaGreatDoor
