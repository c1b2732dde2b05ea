/-
  DERIVED. GIVEN WITH THE SEED: THE CARDS: each row of YtdogddngiolpoaaDoorRows.lean that lists a variable, with what it lists TIED to the program's text (the seventh form; the later family's looks); each row that meets fmt, with fmt's text TOLD by the authors' own Lean function (tested against real Go, not proved from fmt's source: count such statements apart). THE CARD IS WHAT COUNTS. Prove the row's statement (the work); the ties are given (YtdogddngiolpoaaDoorTie.lean); close each card by the builder's one call (the guide's Derived/Test/ToyasCard.lean, 'card_holds'). Laid BY PROGRAM, IN A SANDBOX (cutbox-door.mjs). By AI agents, Wed Nov 11 2026. No macro, syntax, notation, axiom, sorry.
-/
import Derived.Test.YtdogddngiolpoaaDoorRows
import GoSem.ClaimSeven
namespace Go.Proofs.YtdogddngiolpoaaDoor
namespace Rows

/-- THE TIED CARD OF 'pianolalaw15.SimulTimes'. -/
def simulTimesCard : Claim7 := { stood := { row := simulTimesRow, standIns := [], harness := (true, "c5927620538170ddb453fb873aa645cfedaf10d0a6d80bfe941e87269df46a84"), looks := false }, kinds := [], alts := [], laidByText := true, laidKinds := [.data], laidTests := true, laidLooks := .later }
def SimulTimesCardSaid : Prop := Claim7.holds Tryd.pinned (.plain (OpenSpec.ofChange simulTimesSpec)) simulTimesCard

/-- THE SECOND FORM's CARD OF 'pianolalaw15.SimulTimes'. -/
def simulTimesUptoCard : Claim7 := { stood := { row := simulTimesUptoRow, standIns := [], harness := (true, "c5927620538170ddb453fb873aa645cfedaf10d0a6d80bfe941e87269df46a84"), looks := false }, kinds := [], alts := [], laidByText := true, laidKinds := [.data], laidTests := true, laidLooks := .later }
def SimulTimesUptoCardSaid : Prop := Claim7.holds Tryd.pinned (.plain (OpenSpec.upto simulTimesSpec)) simulTimesUptoCard
end Rows
end Go.Proofs.YtdogddngiolpoaaDoor
