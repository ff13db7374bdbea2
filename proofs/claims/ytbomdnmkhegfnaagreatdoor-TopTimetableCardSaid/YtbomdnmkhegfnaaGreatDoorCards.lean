/-
  DERIVED. GIVEN WITH THE SEED: THE CARDS: each row of YtbomdnmkhegfnaaGreatDoorRows.lean that lists a variable, with what it lists TIED to the program's text (the seventh form; the later family's looks); each row that meets fmt, with fmt's text TOLD by the authors' own Lean function (tested against real Go, not proved from fmt's source: count such statements apart). THE CARD IS WHAT COUNTS. Prove the row's statement (the work); the ties are given (YtbomdnmkhegfnaaGreatDoorTie.lean); close each card by the builder's one call (the guide's Derived/Test/ToyasCard.lean, 'card_holds'). Laid BY PROGRAM, IN A SANDBOX (cutbox-door.mjs). By AI agents, Wed Nov 11 2026. No macro, syntax, notation, axiom, sorry.
-/
import Derived.Test.YtbomdnmkhegfnaaGreatDoorRows
import GoSem.ClaimSeven
namespace Go.Proofs.YtbomdnmkhegfnaaGreatDoor
namespace Rows

/-- THE TIED CARD OF 'nacelletop.TopTimetable'. -/
def topTimetableCard : Claim7 := { stood := { row := topTimetableRow, standIns := [], harness := (true, "13b118d21e3f47c1f355658635faa37d712d6024fe69a9b314c5585cfa794a93"), looks := true }, kinds := [], alts := [], laidByText := true, laidKinds := [.data, .data, .data, .data, .handle, .data], laidTests := true, laidLooks := .later }
def TopTimetableCardSaid : Prop := Claim7.holds Tryz.pinned (.plain (OpenSpec.ofChange topTimetableSpec)) topTimetableCard

/-- THE SECOND FORM's CARD OF 'nacelletop.TopTimetable'. -/
def topTimetableUptoCard : Claim7 := { stood := { row := topTimetableUptoRow, standIns := [], harness := (true, "13b118d21e3f47c1f355658635faa37d712d6024fe69a9b314c5585cfa794a93"), looks := true }, kinds := [], alts := [], laidByText := true, laidKinds := [.data, .data, .data, .data, .handle, .data], laidTests := true, laidLooks := .later }
def TopTimetableUptoCardSaid : Prop := Claim7.holds Tryz.pinned (.plain (OpenSpec.upto topTimetableSpec)) topTimetableUptoCard
end Rows
end Go.Proofs.YtbomdnmkhegfnaaGreatDoor
