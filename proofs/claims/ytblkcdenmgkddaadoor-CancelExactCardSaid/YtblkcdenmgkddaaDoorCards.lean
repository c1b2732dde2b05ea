/-
  DERIVED. GIVEN WITH THE SEED: THE CARDS: each row of YtblkcdenmgkddaaDoorRows.lean that lists a variable, with what it lists TIED to the program's text (the seventh form; the later family's looks); each row that meets fmt, with fmt's text TOLD by the authors' own Lean function (tested against real Go, not proved from fmt's source: count such statements apart). THE CARD IS WHAT COUNTS. Prove the row's statement (the work); the ties are given (YtblkcdenmgkddaaDoorTie.lean); close each card by the builder's one call (the guide's Derived/Test/ToyasCard.lean, 'card_holds'). Laid BY PROGRAM, IN A SANDBOX (cutbox-door.mjs). By AI agents, Wed Nov 11 2026. No macro, syntax, notation, axiom, sorry.
-/
import Derived.Test.YtblkcdenmgkddaaDoorRows
import GoSem.ClaimSeven
namespace Go.Proofs.YtblkcdenmgkddaaDoor
namespace Rows

/-- THE TIED CARD OF 'pianolalaw03.CancelReduces'. -/
def cancelReducesCard : Claim7 := { stood := { row := cancelReducesRow, standIns := [], harness := (true, "7268a4d02179bf8ab5d645a4c8c1e2fffc548fa94c0b66f18d8edd5db0212eaa"), looks := false }, kinds := [], alts := [], laidByText := true, laidKinds := [.data], laidTests := true, laidLooks := .later }
def CancelReducesCardSaid : Prop := Claim7.holds Tryd.pinned (.plain (OpenSpec.ofChange cancelReducesSpec)) cancelReducesCard

/-- THE TIED CARD OF 'pianolalaw03.CancelEquals'. -/
def cancelEqualsCard : Claim7 := { stood := { row := cancelEqualsRow, standIns := [], harness := (true, "7268a4d02179bf8ab5d645a4c8c1e2fffc548fa94c0b66f18d8edd5db0212eaa"), looks := false }, kinds := [], alts := [], laidByText := true, laidKinds := [.data], laidTests := true, laidLooks := .later }
def CancelEqualsCardSaid : Prop := Claim7.holds Tryd.pinned (.plain (OpenSpec.ofChange cancelEqualsSpec)) cancelEqualsCard

/-- THE TIED CARD OF 'pianolalaw03.CancelRatios'. -/
def cancelRatiosCard : Claim7 := { stood := { row := cancelRatiosRow, standIns := [], harness := (true, "7268a4d02179bf8ab5d645a4c8c1e2fffc548fa94c0b66f18d8edd5db0212eaa"), looks := false }, kinds := [], alts := [], laidByText := true, laidKinds := [.data], laidTests := true, laidLooks := .later }
def CancelRatiosCardSaid : Prop := Claim7.holds Tryd.pinned (.plain (OpenSpec.ofChange cancelRatiosSpec)) cancelRatiosCard

/-- THE TIED CARD OF 'pianolalaw03.CancelCoprime'. -/
def cancelCoprimeCard : Claim7 := { stood := { row := cancelCoprimeRow, standIns := [], harness := (true, "7268a4d02179bf8ab5d645a4c8c1e2fffc548fa94c0b66f18d8edd5db0212eaa"), looks := false }, kinds := [], alts := [], laidByText := true, laidKinds := [.data], laidTests := true, laidLooks := .later }
def CancelCoprimeCardSaid : Prop := Claim7.holds Tryd.pinned (.plain (OpenSpec.ofChange cancelCoprimeSpec)) cancelCoprimeCard

/-- THE TIED CARD OF 'pianolalaw03.CancelTurns'. -/
def cancelTurnsCard : Claim7 := { stood := { row := cancelTurnsRow, standIns := [], harness := (true, "7268a4d02179bf8ab5d645a4c8c1e2fffc548fa94c0b66f18d8edd5db0212eaa"), looks := false }, kinds := [], alts := [], laidByText := true, laidKinds := [.data], laidTests := true, laidLooks := .later }
def CancelTurnsCardSaid : Prop := Claim7.holds Tryd.pinned (.plain (OpenSpec.ofChange cancelTurnsSpec)) cancelTurnsCard

/-- THE TIED CARD OF 'pianolalaw03.CancelOrder'. -/
def cancelOrderCard : Claim7 := { stood := { row := cancelOrderRow, standIns := [], harness := (true, "7268a4d02179bf8ab5d645a4c8c1e2fffc548fa94c0b66f18d8edd5db0212eaa"), looks := false }, kinds := [], alts := [], laidByText := true, laidKinds := [.data], laidTests := true, laidLooks := .later }
def CancelOrderCardSaid : Prop := Claim7.holds Tryd.pinned (.plain (OpenSpec.ofChange cancelOrderSpec)) cancelOrderCard

/-- THE TIED CARD OF 'pianolalaw03.CancelExact'. -/
def cancelExactCard : Claim7 := { stood := { row := cancelExactRow, standIns := [], harness := (true, "7268a4d02179bf8ab5d645a4c8c1e2fffc548fa94c0b66f18d8edd5db0212eaa"), looks := false }, kinds := [], alts := [], laidByText := true, laidKinds := [.data], laidTests := true, laidLooks := .later }
def CancelExactCardSaid : Prop := Claim7.holds Tryd.pinned (.plain (OpenSpec.ofChange cancelExactSpec)) cancelExactCard

/-- THE TIED CARD OF 'pianolalaw03.CancelNames'. -/
def cancelNamesCard : Claim7 := { stood := { row := cancelNamesRow, standIns := [], harness := (true, "7268a4d02179bf8ab5d645a4c8c1e2fffc548fa94c0b66f18d8edd5db0212eaa"), looks := false }, kinds := [], alts := [], laidByText := true, laidKinds := [.data], laidTests := true, laidLooks := .later }
def CancelNamesCardSaid : Prop := Claim7.holds Tryd.pinned (.plain (OpenSpec.ofChange cancelNamesSpec)) cancelNamesCard

/-- THE SECOND FORM's CARD OF 'pianolalaw03.CancelReduces'. -/
def cancelReducesUptoCard : Claim7 := { stood := { row := cancelReducesUptoRow, standIns := [], harness := (true, "7268a4d02179bf8ab5d645a4c8c1e2fffc548fa94c0b66f18d8edd5db0212eaa"), looks := false }, kinds := [], alts := [], laidByText := true, laidKinds := [.data], laidTests := true, laidLooks := .later }
def CancelReducesUptoCardSaid : Prop := Claim7.holds Tryd.pinned (.plain (OpenSpec.upto cancelReducesSpec)) cancelReducesUptoCard

/-- THE SECOND FORM's CARD OF 'pianolalaw03.CancelEquals'. -/
def cancelEqualsUptoCard : Claim7 := { stood := { row := cancelEqualsUptoRow, standIns := [], harness := (true, "7268a4d02179bf8ab5d645a4c8c1e2fffc548fa94c0b66f18d8edd5db0212eaa"), looks := false }, kinds := [], alts := [], laidByText := true, laidKinds := [.data], laidTests := true, laidLooks := .later }
def CancelEqualsUptoCardSaid : Prop := Claim7.holds Tryd.pinned (.plain (OpenSpec.upto cancelEqualsSpec)) cancelEqualsUptoCard

/-- THE SECOND FORM's CARD OF 'pianolalaw03.CancelRatios'. -/
def cancelRatiosUptoCard : Claim7 := { stood := { row := cancelRatiosUptoRow, standIns := [], harness := (true, "7268a4d02179bf8ab5d645a4c8c1e2fffc548fa94c0b66f18d8edd5db0212eaa"), looks := false }, kinds := [], alts := [], laidByText := true, laidKinds := [.data], laidTests := true, laidLooks := .later }
def CancelRatiosUptoCardSaid : Prop := Claim7.holds Tryd.pinned (.plain (OpenSpec.upto cancelRatiosSpec)) cancelRatiosUptoCard

/-- THE SECOND FORM's CARD OF 'pianolalaw03.CancelCoprime'. -/
def cancelCoprimeUptoCard : Claim7 := { stood := { row := cancelCoprimeUptoRow, standIns := [], harness := (true, "7268a4d02179bf8ab5d645a4c8c1e2fffc548fa94c0b66f18d8edd5db0212eaa"), looks := false }, kinds := [], alts := [], laidByText := true, laidKinds := [.data], laidTests := true, laidLooks := .later }
def CancelCoprimeUptoCardSaid : Prop := Claim7.holds Tryd.pinned (.plain (OpenSpec.upto cancelCoprimeSpec)) cancelCoprimeUptoCard

/-- THE SECOND FORM's CARD OF 'pianolalaw03.CancelTurns'. -/
def cancelTurnsUptoCard : Claim7 := { stood := { row := cancelTurnsUptoRow, standIns := [], harness := (true, "7268a4d02179bf8ab5d645a4c8c1e2fffc548fa94c0b66f18d8edd5db0212eaa"), looks := false }, kinds := [], alts := [], laidByText := true, laidKinds := [.data], laidTests := true, laidLooks := .later }
def CancelTurnsUptoCardSaid : Prop := Claim7.holds Tryd.pinned (.plain (OpenSpec.upto cancelTurnsSpec)) cancelTurnsUptoCard

/-- THE SECOND FORM's CARD OF 'pianolalaw03.CancelOrder'. -/
def cancelOrderUptoCard : Claim7 := { stood := { row := cancelOrderUptoRow, standIns := [], harness := (true, "7268a4d02179bf8ab5d645a4c8c1e2fffc548fa94c0b66f18d8edd5db0212eaa"), looks := false }, kinds := [], alts := [], laidByText := true, laidKinds := [.data], laidTests := true, laidLooks := .later }
def CancelOrderUptoCardSaid : Prop := Claim7.holds Tryd.pinned (.plain (OpenSpec.upto cancelOrderSpec)) cancelOrderUptoCard

/-- THE SECOND FORM's CARD OF 'pianolalaw03.CancelExact'. -/
def cancelExactUptoCard : Claim7 := { stood := { row := cancelExactUptoRow, standIns := [], harness := (true, "7268a4d02179bf8ab5d645a4c8c1e2fffc548fa94c0b66f18d8edd5db0212eaa"), looks := false }, kinds := [], alts := [], laidByText := true, laidKinds := [.data], laidTests := true, laidLooks := .later }
def CancelExactUptoCardSaid : Prop := Claim7.holds Tryd.pinned (.plain (OpenSpec.upto cancelExactSpec)) cancelExactUptoCard

/-- THE SECOND FORM's CARD OF 'pianolalaw03.CancelNames'. -/
def cancelNamesUptoCard : Claim7 := { stood := { row := cancelNamesUptoRow, standIns := [], harness := (true, "7268a4d02179bf8ab5d645a4c8c1e2fffc548fa94c0b66f18d8edd5db0212eaa"), looks := false }, kinds := [], alts := [], laidByText := true, laidKinds := [.data], laidTests := true, laidLooks := .later }
def CancelNamesUptoCardSaid : Prop := Claim7.holds Tryd.pinned (.plain (OpenSpec.upto cancelNamesSpec)) cancelNamesUptoCard
end Rows
end Go.Proofs.YtblkcdenmgkddaaDoor
