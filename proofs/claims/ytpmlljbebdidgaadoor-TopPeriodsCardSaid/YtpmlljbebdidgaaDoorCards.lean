/-
  DERIVED. GIVEN WITH THE SEED: THE CARDS: each row of YtpmlljbebdidgaaDoorRows.lean that lists a variable, with what it lists TIED to the program's text (the seventh form; the later family's looks); each row that meets fmt, with fmt's text TOLD by the authors' own Lean function (tested against real Go, not proved from fmt's source: count such statements apart). THE CARD IS WHAT COUNTS. Prove the row's statement (the work); the ties are given (YtpmlljbebdidgaaDoorTie.lean); close each card by the builder's one call (the guide's Derived/Test/ToyasCard.lean, 'card_holds'). Laid BY PROGRAM, IN A SANDBOX (cutbox-door.mjs). By AI agents, Wed Nov 11 2026. No macro, syntax, notation, axiom, sorry.
-/
import Derived.Test.YtpmlljbebdidgaaDoorRows
import GoSem.ClaimSeven
namespace Go.Proofs.YtpmlljbebdidgaaDoor
namespace Rows

/-- THE TIED CARD OF 'pianolatop.TopPeriods'. -/
def topPeriodsCard : Claim7 := { stood := { row := topPeriodsRow, standIns := [], harness := (true, "96df814754359b398b82fc1fd21849c758966e7356da8742f0e754cae3ecf166"), looks := false }, kinds := [], alts := [], laidByText := true, laidKinds := [.data], laidTests := true, laidLooks := .later }
def TopPeriodsCardSaid : Prop := Claim7.holds Tryd.pinned (.plain (OpenSpec.ofChange topPeriodsSpec)) topPeriodsCard

/-- THE SECOND FORM's CARD OF 'pianolatop.TopPeriods'. -/
def topPeriodsUptoCard : Claim7 := { stood := { row := topPeriodsUptoRow, standIns := [], harness := (true, "96df814754359b398b82fc1fd21849c758966e7356da8742f0e754cae3ecf166"), looks := false }, kinds := [], alts := [], laidByText := true, laidKinds := [.data], laidTests := true, laidLooks := .later }
def TopPeriodsUptoCardSaid : Prop := Claim7.holds Tryd.pinned (.plain (OpenSpec.upto topPeriodsSpec)) topPeriodsUptoCard
end Rows
end Go.Proofs.YtpmlljbebdidgaaDoor
