/-
  DERIVED. GIVEN WITH THE SEED: THE CARDS: each row of YtgpimlmolcjeoabDoorRows.lean that lists a variable, with what it lists TIED to the program's text (the seventh form; the later family's looks); each row that meets fmt, with fmt's text TOLD by the authors' own Lean function (tested against real Go, not proved from fmt's source: count such statements apart). THE CARD IS WHAT COUNTS. Prove the row's statement (the work); the ties are given (YtgpimlmolcjeoabDoorTie.lean); close each card by the builder's one call (the guide's Derived/Test/ToyasCard.lean, 'card_holds'). Laid BY PROGRAM, IN A SANDBOX (cutbox-door.mjs). By AI agents, Wed Nov 11 2026. No macro, syntax, notation, axiom, sorry.
-/
import Derived.Test.YtgpimlmolcjeoabDoorRows
import GoSem.ClaimSeven
namespace Go.Proofs.YtgpimlmolcjeoabDoor
namespace Rows

/-- THE TIED CARD OF 'laws.FnExactParseVals'. -/
def fnExactParseValsCard : Claim7 := { stood := { row := fnExactParseValsRow, standIns := [], harness := (true, "ff5449e65d25ddcc75f999bd834e04896b6620e98485226df687b3def25611f9"), looks := true }, kinds := [], alts := [], laidByText := true, laidKinds := [.data, .data, .data, .data, .sentinel, .sentinel, .pinned], laidTests := true, laidLooks := .later }
def FnExactParseValsCardSaid : Prop := Claim7.holds Tryd.pinned (.plain (OpenSpec.ofChange fnExactParseValsSpec)) fnExactParseValsCard

/-- THE SECOND FORM's CARD OF 'laws.FnExactParseVals'. -/
def fnExactParseValsUptoCard : Claim7 := { stood := { row := fnExactParseValsUptoRow, standIns := [], harness := (true, "ff5449e65d25ddcc75f999bd834e04896b6620e98485226df687b3def25611f9"), looks := true }, kinds := [], alts := [], laidByText := true, laidKinds := [.data, .data, .data, .data, .sentinel, .sentinel, .pinned], laidTests := true, laidLooks := .later }
def FnExactParseValsUptoCardSaid : Prop := Claim7.holds Tryd.pinned (.plain (OpenSpec.upto fnExactParseValsSpec)) fnExactParseValsUptoCard
end Rows
end Go.Proofs.YtgpimlmolcjeoabDoor
