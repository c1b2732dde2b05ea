/-
  DERIVED. GIVEN WITH THE SEED: THE CARDS: each row of YtpmlljbebdidgaaGreatDoorRows.lean that lists a variable, with what it lists TIED to the program's text (the seventh form; the later family's looks); each row that meets fmt, with fmt's text TOLD by the authors' own Lean function (tested against real Go, not proved from fmt's source: count such statements apart). THE CARD IS WHAT COUNTS. Prove the row's statement (the work); the ties are given (YtpmlljbebdidgaaGreatDoorTie.lean); close each card by the builder's one call (the guide's Derived/Test/ToyasCard.lean, 'card_holds'). Laid BY PROGRAM, IN A SANDBOX (cutbox-door.mjs). By AI agents, Wed Nov 11 2026. No macro, syntax, notation, axiom, sorry.
-/
import Derived.Test.YtpmlljbebdidgaaGreatDoorRows
import GoSem.ClaimSeven
namespace Go.Proofs.YtpmlljbebdidgaaGreatDoor
namespace Rows

/-- THE TIED CARD OF 'pianolatop.TopRuns'. -/
def topRunsCard : Claim7 := { stood := { row := topRunsRow, standIns := [], harness := (true, "3170d33394f14e9c4a87451816805ff0c49168429d456da11cdd4335022eec89"), looks := false }, kinds := [], alts := [], laidByText := true, laidKinds := [.data], laidTests := true, laidLooks := .later }
def TopRunsCardSaid : Prop := Claim7.holds Tryz.pinned (.plain (OpenSpec.ofChange topRunsSpec)) topRunsCard

/-- THE TIED CARD OF 'pianolatop.TopStuck'. -/
def topStuckCard : Claim7 := { stood := { row := topStuckRow, standIns := [], harness := (true, "3170d33394f14e9c4a87451816805ff0c49168429d456da11cdd4335022eec89"), looks := false }, kinds := [], alts := [], laidByText := true, laidKinds := [.data], laidTests := true, laidLooks := .later }
def TopStuckCardSaid : Prop := Claim7.holds Tryz.pinned (.plain (OpenSpec.ofChange topStuckSpec)) topStuckCard

/-- THE SECOND FORM's CARD OF 'pianolatop.TopRuns'. -/
def topRunsUptoCard : Claim7 := { stood := { row := topRunsUptoRow, standIns := [], harness := (true, "3170d33394f14e9c4a87451816805ff0c49168429d456da11cdd4335022eec89"), looks := false }, kinds := [], alts := [], laidByText := true, laidKinds := [.data], laidTests := true, laidLooks := .later }
def TopRunsUptoCardSaid : Prop := Claim7.holds Tryz.pinned (.plain (OpenSpec.upto topRunsSpec)) topRunsUptoCard

/-- THE SECOND FORM's CARD OF 'pianolatop.TopStuck'. -/
def topStuckUptoCard : Claim7 := { stood := { row := topStuckUptoRow, standIns := [], harness := (true, "3170d33394f14e9c4a87451816805ff0c49168429d456da11cdd4335022eec89"), looks := false }, kinds := [], alts := [], laidByText := true, laidKinds := [.data], laidTests := true, laidLooks := .later }
def TopStuckUptoCardSaid : Prop := Claim7.holds Tryz.pinned (.plain (OpenSpec.upto topStuckSpec)) topStuckUptoCard
end Rows
end Go.Proofs.YtpmlljbebdidgaaGreatDoor
