/-
  DERIVED. GIVEN WITH THE SEED: THE CARDS: each row of YtlpmnhllnfhkdaaDoorRows.lean that lists a variable, with what it lists TIED to the program's text (the seventh form; the later family's looks); each row that meets fmt, with fmt's text TOLD by the authors' own Lean function (tested against real Go, not proved from fmt's source: count such statements apart). THE CARD IS WHAT COUNTS. Prove the row's statement (the work); the ties are given (YtlpmnhllnfhkdaaDoorTie.lean); close each card by the builder's one call (the guide's Derived/Test/ToyasCard.lean, 'card_holds'). Laid BY PROGRAM, IN A SANDBOX (cutbox-door.mjs). By AI agents, Wed Nov 11 2026. No macro, syntax, notation, axiom, sorry.
-/
import Derived.Test.YtlpmnhllnfhkdaaDoorRows
import GoSem.ClaimSeven
namespace Go.Proofs.YtlpmnhllnfhkdaaDoor
namespace Rows

/-- THE TIED CARD OF 'pianolalaw13.BalanceSolves'. -/
def balanceSolvesCard : Claim7 := { stood := { row := balanceSolvesRow, standIns := [], harness := (true, "b8dbe9937ed6619494b02cc816e6a3734010609d9c31a0548c55938f666d4f0c"), looks := false }, kinds := [], alts := [], laidByText := true, laidKinds := [.data], laidTests := true, laidLooks := .later }
def BalanceSolvesCardSaid : Prop := Claim7.holds Tryd.pinned (.plain (OpenSpec.ofChange balanceSolvesSpec)) balanceSolvesCard

/-- THE TIED CARD OF 'pianolalaw13.BalanceOne'. -/
def balanceOneCard : Claim7 := { stood := { row := balanceOneRow, standIns := [], harness := (true, "b8dbe9937ed6619494b02cc816e6a3734010609d9c31a0548c55938f666d4f0c"), looks := false }, kinds := [], alts := [], laidByText := true, laidKinds := [.data], laidTests := true, laidLooks := .later }
def BalanceOneCardSaid : Prop := Claim7.holds Tryd.pinned (.plain (OpenSpec.ofChange balanceOneSpec)) balanceOneCard

/-- THE TIED CARD OF 'pianolalaw13.BalanceStarts'. -/
def balanceStartsCard : Claim7 := { stood := { row := balanceStartsRow, standIns := [], harness := (true, "b8dbe9937ed6619494b02cc816e6a3734010609d9c31a0548c55938f666d4f0c"), looks := false }, kinds := [], alts := [], laidByText := true, laidKinds := [.data], laidTests := true, laidLooks := .later }
def BalanceStartsCardSaid : Prop := Claim7.holds Tryd.pinned (.plain (OpenSpec.ofChange balanceStartsSpec)) balanceStartsCard

/-- THE TIED CARD OF 'pianolalaw13.BalanceTurned'. -/
def balanceTurnedCard : Claim7 := { stood := { row := balanceTurnedRow, standIns := [], harness := (true, "b8dbe9937ed6619494b02cc816e6a3734010609d9c31a0548c55938f666d4f0c"), looks := false }, kinds := [], alts := [], laidByText := true, laidKinds := [.data], laidTests := true, laidLooks := .later }
def BalanceTurnedCardSaid : Prop := Claim7.holds Tryd.pinned (.plain (OpenSpec.ofChange balanceTurnedSpec)) balanceTurnedCard

/-- THE TIED CARD OF 'pianolalaw13.BalanceBeside'. -/
def balanceBesideCard : Claim7 := { stood := { row := balanceBesideRow, standIns := [], harness := (true, "b8dbe9937ed6619494b02cc816e6a3734010609d9c31a0548c55938f666d4f0c"), looks := false }, kinds := [], alts := [], laidByText := true, laidKinds := [.data], laidTests := true, laidLooks := .later }
def BalanceBesideCardSaid : Prop := Claim7.holds Tryd.pinned (.plain (OpenSpec.ofChange balanceBesideSpec)) balanceBesideCard

/-- THE TIED CARD OF 'pianolalaw13.BalanceHolds'. -/
def balanceHoldsCard : Claim7 := { stood := { row := balanceHoldsRow, standIns := [], harness := (true, "b8dbe9937ed6619494b02cc816e6a3734010609d9c31a0548c55938f666d4f0c"), looks := false }, kinds := [], alts := [], laidByText := true, laidKinds := [.data], laidTests := true, laidLooks := .later }
def BalanceHoldsCardSaid : Prop := Claim7.holds Tryd.pinned (.plain (OpenSpec.ofChange balanceHoldsSpec)) balanceHoldsCard

/-- THE TIED CARD OF 'pianolalaw13.BalanceLeast'. -/
def balanceLeastCard : Claim7 := { stood := { row := balanceLeastRow, standIns := [], harness := (true, "b8dbe9937ed6619494b02cc816e6a3734010609d9c31a0548c55938f666d4f0c"), looks := false }, kinds := [], alts := [], laidByText := true, laidKinds := [.data], laidTests := true, laidLooks := .later }
def BalanceLeastCardSaid : Prop := Claim7.holds Tryd.pinned (.plain (OpenSpec.ofChange balanceLeastSpec)) balanceLeastCard

/-- THE TIED CARD OF 'pianolalaw13.BalanceUnlike'. -/
def balanceUnlikeCard : Claim7 := { stood := { row := balanceUnlikeRow, standIns := [], harness := (true, "b8dbe9937ed6619494b02cc816e6a3734010609d9c31a0548c55938f666d4f0c"), looks := false }, kinds := [], alts := [], laidByText := true, laidKinds := [.data], laidTests := true, laidLooks := .later }
def BalanceUnlikeCardSaid : Prop := Claim7.holds Tryd.pinned (.plain (OpenSpec.ofChange balanceUnlikeSpec)) balanceUnlikeCard

/-- THE SECOND FORM's CARD OF 'pianolalaw13.BalanceSolves'. -/
def balanceSolvesUptoCard : Claim7 := { stood := { row := balanceSolvesUptoRow, standIns := [], harness := (true, "b8dbe9937ed6619494b02cc816e6a3734010609d9c31a0548c55938f666d4f0c"), looks := false }, kinds := [], alts := [], laidByText := true, laidKinds := [.data], laidTests := true, laidLooks := .later }
def BalanceSolvesUptoCardSaid : Prop := Claim7.holds Tryd.pinned (.plain (OpenSpec.upto balanceSolvesSpec)) balanceSolvesUptoCard

/-- THE SECOND FORM's CARD OF 'pianolalaw13.BalanceOne'. -/
def balanceOneUptoCard : Claim7 := { stood := { row := balanceOneUptoRow, standIns := [], harness := (true, "b8dbe9937ed6619494b02cc816e6a3734010609d9c31a0548c55938f666d4f0c"), looks := false }, kinds := [], alts := [], laidByText := true, laidKinds := [.data], laidTests := true, laidLooks := .later }
def BalanceOneUptoCardSaid : Prop := Claim7.holds Tryd.pinned (.plain (OpenSpec.upto balanceOneSpec)) balanceOneUptoCard

/-- THE SECOND FORM's CARD OF 'pianolalaw13.BalanceStarts'. -/
def balanceStartsUptoCard : Claim7 := { stood := { row := balanceStartsUptoRow, standIns := [], harness := (true, "b8dbe9937ed6619494b02cc816e6a3734010609d9c31a0548c55938f666d4f0c"), looks := false }, kinds := [], alts := [], laidByText := true, laidKinds := [.data], laidTests := true, laidLooks := .later }
def BalanceStartsUptoCardSaid : Prop := Claim7.holds Tryd.pinned (.plain (OpenSpec.upto balanceStartsSpec)) balanceStartsUptoCard

/-- THE SECOND FORM's CARD OF 'pianolalaw13.BalanceTurned'. -/
def balanceTurnedUptoCard : Claim7 := { stood := { row := balanceTurnedUptoRow, standIns := [], harness := (true, "b8dbe9937ed6619494b02cc816e6a3734010609d9c31a0548c55938f666d4f0c"), looks := false }, kinds := [], alts := [], laidByText := true, laidKinds := [.data], laidTests := true, laidLooks := .later }
def BalanceTurnedUptoCardSaid : Prop := Claim7.holds Tryd.pinned (.plain (OpenSpec.upto balanceTurnedSpec)) balanceTurnedUptoCard

/-- THE SECOND FORM's CARD OF 'pianolalaw13.BalanceBeside'. -/
def balanceBesideUptoCard : Claim7 := { stood := { row := balanceBesideUptoRow, standIns := [], harness := (true, "b8dbe9937ed6619494b02cc816e6a3734010609d9c31a0548c55938f666d4f0c"), looks := false }, kinds := [], alts := [], laidByText := true, laidKinds := [.data], laidTests := true, laidLooks := .later }
def BalanceBesideUptoCardSaid : Prop := Claim7.holds Tryd.pinned (.plain (OpenSpec.upto balanceBesideSpec)) balanceBesideUptoCard

/-- THE SECOND FORM's CARD OF 'pianolalaw13.BalanceHolds'. -/
def balanceHoldsUptoCard : Claim7 := { stood := { row := balanceHoldsUptoRow, standIns := [], harness := (true, "b8dbe9937ed6619494b02cc816e6a3734010609d9c31a0548c55938f666d4f0c"), looks := false }, kinds := [], alts := [], laidByText := true, laidKinds := [.data], laidTests := true, laidLooks := .later }
def BalanceHoldsUptoCardSaid : Prop := Claim7.holds Tryd.pinned (.plain (OpenSpec.upto balanceHoldsSpec)) balanceHoldsUptoCard

/-- THE SECOND FORM's CARD OF 'pianolalaw13.BalanceLeast'. -/
def balanceLeastUptoCard : Claim7 := { stood := { row := balanceLeastUptoRow, standIns := [], harness := (true, "b8dbe9937ed6619494b02cc816e6a3734010609d9c31a0548c55938f666d4f0c"), looks := false }, kinds := [], alts := [], laidByText := true, laidKinds := [.data], laidTests := true, laidLooks := .later }
def BalanceLeastUptoCardSaid : Prop := Claim7.holds Tryd.pinned (.plain (OpenSpec.upto balanceLeastSpec)) balanceLeastUptoCard

/-- THE SECOND FORM's CARD OF 'pianolalaw13.BalanceUnlike'. -/
def balanceUnlikeUptoCard : Claim7 := { stood := { row := balanceUnlikeUptoRow, standIns := [], harness := (true, "b8dbe9937ed6619494b02cc816e6a3734010609d9c31a0548c55938f666d4f0c"), looks := false }, kinds := [], alts := [], laidByText := true, laidKinds := [.data], laidTests := true, laidLooks := .later }
def BalanceUnlikeUptoCardSaid : Prop := Claim7.holds Tryd.pinned (.plain (OpenSpec.upto balanceUnlikeSpec)) balanceUnlikeUptoCard
end Rows
end Go.Proofs.YtlpmnhllnfhkdaaDoor
