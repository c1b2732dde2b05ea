/-
  DERIVED. GIVEN WITH THE SEED: THE CARDS: each row of YtkheoaleamolcaaDoorRows.lean that lists a variable, with what it lists TIED to the program's text (the seventh form; the later family's looks); each row that meets fmt, with fmt's text TOLD by the authors' own Lean function (tested against real Go, not proved from fmt's source: count such statements apart). THE CARD IS WHAT COUNTS. Prove the row's statement (the work); the ties are given (YtkheoaleamolcaaDoorTie.lean); close each card by the builder's one call (the guide's Derived/Test/ToyasCard.lean, 'card_holds'). Laid BY PROGRAM, IN A SANDBOX (cutbox-door.mjs). By AI agents, Wed Nov 11 2026. No macro, syntax, notation, axiom, sorry.
-/
import Derived.Test.YtkheoaleamolcaaDoorRows
import GoSem.ClaimSeven
namespace Go.Proofs.YtkheoaleamolcaaDoor
namespace Rows

/-- THE TIED CARD OF 'pianolalaw12.WitnessProducts'. -/
def witnessProductsCard : Claim7 := { stood := { row := witnessProductsRow, standIns := [], harness := (true, "a9e7aeebc78562c6c547f853923154db011087bd82aa851956653bcdbef10434"), looks := false }, kinds := [], alts := [], laidByText := true, laidKinds := [.data], laidTests := true, laidLooks := .later }
def WitnessProductsCardSaid : Prop := Claim7.holds Tryd.pinned (.plain (OpenSpec.ofChange witnessProductsSpec)) witnessProductsCard

/-- THE TIED CARD OF 'pianolalaw12.WitnessConfirms'. -/
def witnessConfirmsCard : Claim7 := { stood := { row := witnessConfirmsRow, standIns := [], harness := (true, "a9e7aeebc78562c6c547f853923154db011087bd82aa851956653bcdbef10434"), looks := false }, kinds := [], alts := [], laidByText := true, laidKinds := [.data], laidTests := true, laidLooks := .later }
def WitnessConfirmsCardSaid : Prop := Claim7.holds Tryd.pinned (.plain (OpenSpec.ofChange witnessConfirmsSpec)) witnessConfirmsCard

/-- THE TIED CARD OF 'pianolalaw12.WitnessDenies'. -/
def witnessDeniesCard : Claim7 := { stood := { row := witnessDeniesRow, standIns := [], harness := (true, "a9e7aeebc78562c6c547f853923154db011087bd82aa851956653bcdbef10434"), looks := false }, kinds := [], alts := [], laidByText := true, laidKinds := [.data], laidTests := true, laidLooks := .later }
def WitnessDeniesCardSaid : Prop := Claim7.holds Tryd.pinned (.plain (OpenSpec.ofChange witnessDeniesSpec)) witnessDeniesCard

/-- THE TIED CARD OF 'pianolalaw12.WitnessTurns'. -/
def witnessTurnsCard : Claim7 := { stood := { row := witnessTurnsRow, standIns := [], harness := (true, "a9e7aeebc78562c6c547f853923154db011087bd82aa851956653bcdbef10434"), looks := false }, kinds := [], alts := [], laidByText := true, laidKinds := [.data], laidTests := true, laidLooks := .later }
def WitnessTurnsCardSaid : Prop := Claim7.holds Tryd.pinned (.plain (OpenSpec.ofChange witnessTurnsSpec)) witnessTurnsCard

/-- THE TIED CARD OF 'pianolalaw12.WitnessPairs'. -/
def witnessPairsCard : Claim7 := { stood := { row := witnessPairsRow, standIns := [], harness := (true, "a9e7aeebc78562c6c547f853923154db011087bd82aa851956653bcdbef10434"), looks := false }, kinds := [], alts := [], laidByText := true, laidKinds := [.data], laidTests := true, laidLooks := .later }
def WitnessPairsCardSaid : Prop := Claim7.holds Tryd.pinned (.plain (OpenSpec.ofChange witnessPairsSpec)) witnessPairsCard

/-- THE SECOND FORM's CARD OF 'pianolalaw12.WitnessProducts'. -/
def witnessProductsUptoCard : Claim7 := { stood := { row := witnessProductsUptoRow, standIns := [], harness := (true, "a9e7aeebc78562c6c547f853923154db011087bd82aa851956653bcdbef10434"), looks := false }, kinds := [], alts := [], laidByText := true, laidKinds := [.data], laidTests := true, laidLooks := .later }
def WitnessProductsUptoCardSaid : Prop := Claim7.holds Tryd.pinned (.plain (OpenSpec.upto witnessProductsSpec)) witnessProductsUptoCard

/-- THE SECOND FORM's CARD OF 'pianolalaw12.WitnessConfirms'. -/
def witnessConfirmsUptoCard : Claim7 := { stood := { row := witnessConfirmsUptoRow, standIns := [], harness := (true, "a9e7aeebc78562c6c547f853923154db011087bd82aa851956653bcdbef10434"), looks := false }, kinds := [], alts := [], laidByText := true, laidKinds := [.data], laidTests := true, laidLooks := .later }
def WitnessConfirmsUptoCardSaid : Prop := Claim7.holds Tryd.pinned (.plain (OpenSpec.upto witnessConfirmsSpec)) witnessConfirmsUptoCard

/-- THE SECOND FORM's CARD OF 'pianolalaw12.WitnessDenies'. -/
def witnessDeniesUptoCard : Claim7 := { stood := { row := witnessDeniesUptoRow, standIns := [], harness := (true, "a9e7aeebc78562c6c547f853923154db011087bd82aa851956653bcdbef10434"), looks := false }, kinds := [], alts := [], laidByText := true, laidKinds := [.data], laidTests := true, laidLooks := .later }
def WitnessDeniesUptoCardSaid : Prop := Claim7.holds Tryd.pinned (.plain (OpenSpec.upto witnessDeniesSpec)) witnessDeniesUptoCard

/-- THE SECOND FORM's CARD OF 'pianolalaw12.WitnessTurns'. -/
def witnessTurnsUptoCard : Claim7 := { stood := { row := witnessTurnsUptoRow, standIns := [], harness := (true, "a9e7aeebc78562c6c547f853923154db011087bd82aa851956653bcdbef10434"), looks := false }, kinds := [], alts := [], laidByText := true, laidKinds := [.data], laidTests := true, laidLooks := .later }
def WitnessTurnsUptoCardSaid : Prop := Claim7.holds Tryd.pinned (.plain (OpenSpec.upto witnessTurnsSpec)) witnessTurnsUptoCard

/-- THE SECOND FORM's CARD OF 'pianolalaw12.WitnessPairs'. -/
def witnessPairsUptoCard : Claim7 := { stood := { row := witnessPairsUptoRow, standIns := [], harness := (true, "a9e7aeebc78562c6c547f853923154db011087bd82aa851956653bcdbef10434"), looks := false }, kinds := [], alts := [], laidByText := true, laidKinds := [.data], laidTests := true, laidLooks := .later }
def WitnessPairsUptoCardSaid : Prop := Claim7.holds Tryd.pinned (.plain (OpenSpec.upto witnessPairsSpec)) witnessPairsUptoCard
end Rows
end Go.Proofs.YtkheoaleamolcaaDoor
