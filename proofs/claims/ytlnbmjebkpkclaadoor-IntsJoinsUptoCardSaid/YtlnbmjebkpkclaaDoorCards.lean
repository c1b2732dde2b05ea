/-
  DERIVED. GIVEN WITH THE SEED: THE CARDS: each row of YtlnbmjebkpkclaaDoorRows.lean that lists a variable, with what it lists TIED to the program's text (the seventh form; the later family's looks); each row that meets fmt, with fmt's text TOLD by the authors' own Lean function (tested against real Go, not proved from fmt's source: count such statements apart). THE CARD IS WHAT COUNTS. Prove the row's statement (the work); the ties are given (YtlnbmjebkpkclaaDoorTie.lean); close each card by the builder's one call (the guide's Derived/Test/ToyasCard.lean, 'card_holds'). Laid BY PROGRAM, IN A SANDBOX (cutbox-door.mjs). By AI agents, Wed Nov 11 2026. No macro, syntax, notation, axiom, sorry.
-/
import Derived.Test.YtlnbmjebkpkclaaDoorRows
import GoSem.ClaimSeven
namespace Go.Proofs.YtlnbmjebkpkclaaDoor
namespace Rows

/-- THE TIED CARD OF 'pianolalaw01.IntsAdds'. -/
def intsAddsCard : Claim7 := { stood := { row := intsAddsRow, standIns := [], harness := (true, "3542cfddcca68e71cbefdc1f64b78fad68ad587973ca703605d2500845168714"), looks := false }, kinds := [], alts := [], laidByText := true, laidKinds := [.data], laidTests := true, laidLooks := .later }
def IntsAddsCardSaid : Prop := Claim7.holds Tryd.pinned (.plain (OpenSpec.ofChange intsAddsSpec)) intsAddsCard

/-- THE TIED CARD OF 'pianolalaw01.IntsSums'. -/
def intsSumsCard : Claim7 := { stood := { row := intsSumsRow, standIns := [], harness := (true, "3542cfddcca68e71cbefdc1f64b78fad68ad587973ca703605d2500845168714"), looks := false }, kinds := [], alts := [], laidByText := true, laidKinds := [.data], laidTests := true, laidLooks := .later }
def IntsSumsCardSaid : Prop := Claim7.holds Tryd.pinned (.plain (OpenSpec.ofChange intsSumsSpec)) intsSumsCard

/-- THE TIED CARD OF 'pianolalaw01.IntsGcds'. -/
def intsGcdsCard : Claim7 := { stood := { row := intsGcdsRow, standIns := [], harness := (true, "3542cfddcca68e71cbefdc1f64b78fad68ad587973ca703605d2500845168714"), looks := false }, kinds := [], alts := [], laidByText := true, laidKinds := [.data], laidTests := true, laidLooks := .later }
def IntsGcdsCardSaid : Prop := Claim7.holds Tryd.pinned (.plain (OpenSpec.ofChange intsGcdsSpec)) intsGcdsCard

/-- THE TIED CARD OF 'pianolalaw01.IntsLcms'. -/
def intsLcmsCard : Claim7 := { stood := { row := intsLcmsRow, standIns := [], harness := (true, "3542cfddcca68e71cbefdc1f64b78fad68ad587973ca703605d2500845168714"), looks := false }, kinds := [], alts := [], laidByText := true, laidKinds := [.data], laidTests := true, laidLooks := .later }
def IntsLcmsCardSaid : Prop := Claim7.holds Tryd.pinned (.plain (OpenSpec.ofChange intsLcmsSpec)) intsLcmsCard

/-- THE TIED CARD OF 'pianolalaw01.IntsDots'. -/
def intsDotsCard : Claim7 := { stood := { row := intsDotsRow, standIns := [], harness := (true, "3542cfddcca68e71cbefdc1f64b78fad68ad587973ca703605d2500845168714"), looks := false }, kinds := [], alts := [], laidByText := true, laidKinds := [.data], laidTests := true, laidLooks := .later }
def IntsDotsCardSaid : Prop := Claim7.holds Tryd.pinned (.plain (OpenSpec.ofChange intsDotsSpec)) intsDotsCard

/-- THE TIED CARD OF 'pianolalaw01.IntsBack'. -/
def intsBackCard : Claim7 := { stood := { row := intsBackRow, standIns := [], harness := (true, "3542cfddcca68e71cbefdc1f64b78fad68ad587973ca703605d2500845168714"), looks := false }, kinds := [], alts := [], laidByText := true, laidKinds := [.data], laidTests := true, laidLooks := .later }
def IntsBackCardSaid : Prop := Claim7.holds Tryd.pinned (.plain (OpenSpec.ofChange intsBackSpec)) intsBackCard

/-- THE TIED CARD OF 'pianolalaw01.IntsDivides'. -/
def intsDividesCard : Claim7 := { stood := { row := intsDividesRow, standIns := [], harness := (true, "3542cfddcca68e71cbefdc1f64b78fad68ad587973ca703605d2500845168714"), looks := false }, kinds := [], alts := [], laidByText := true, laidKinds := [.data], laidTests := true, laidLooks := .later }
def IntsDividesCardSaid : Prop := Claim7.holds Tryd.pinned (.plain (OpenSpec.ofChange intsDividesSpec)) intsDividesCard

/-- THE TIED CARD OF 'pianolalaw01.IntsMultiple'. -/
def intsMultipleCard : Claim7 := { stood := { row := intsMultipleRow, standIns := [], harness := (true, "3542cfddcca68e71cbefdc1f64b78fad68ad587973ca703605d2500845168714"), looks := false }, kinds := [], alts := [], laidByText := true, laidKinds := [.data], laidTests := true, laidLooks := .later }
def IntsMultipleCardSaid : Prop := Claim7.holds Tryd.pinned (.plain (OpenSpec.ofChange intsMultipleSpec)) intsMultipleCard

/-- THE TIED CARD OF 'pianolalaw01.IntsJoins'. -/
def intsJoinsCard : Claim7 := { stood := { row := intsJoinsRow, standIns := [], harness := (true, "3542cfddcca68e71cbefdc1f64b78fad68ad587973ca703605d2500845168714"), looks := false }, kinds := [], alts := [], laidByText := true, laidKinds := [.data], laidTests := true, laidLooks := .later }
def IntsJoinsCardSaid : Prop := Claim7.holds Tryd.pinned (.plain (OpenSpec.ofChange intsJoinsSpec)) intsJoinsCard

/-- THE TIED CARD OF 'pianolalaw01.IntsProduct'. -/
def intsProductCard : Claim7 := { stood := { row := intsProductRow, standIns := [], harness := (true, "3542cfddcca68e71cbefdc1f64b78fad68ad587973ca703605d2500845168714"), looks := false }, kinds := [], alts := [], laidByText := true, laidKinds := [.data], laidTests := true, laidLooks := .later }
def IntsProductCardSaid : Prop := Claim7.holds Tryd.pinned (.plain (OpenSpec.ofChange intsProductSpec)) intsProductCard

/-- THE TIED CARD OF 'pianolalaw01.IntsNames'. -/
def intsNamesCard : Claim7 := { stood := { row := intsNamesRow, standIns := [], harness := (true, "3542cfddcca68e71cbefdc1f64b78fad68ad587973ca703605d2500845168714"), looks := false }, kinds := [], alts := [], laidByText := true, laidKinds := [.data], laidTests := true, laidLooks := .later }
def IntsNamesCardSaid : Prop := Claim7.holds Tryd.pinned (.plain (OpenSpec.ofChange intsNamesSpec)) intsNamesCard

/-- THE SECOND FORM's CARD OF 'pianolalaw01.IntsAdds'. -/
def intsAddsUptoCard : Claim7 := { stood := { row := intsAddsUptoRow, standIns := [], harness := (true, "3542cfddcca68e71cbefdc1f64b78fad68ad587973ca703605d2500845168714"), looks := false }, kinds := [], alts := [], laidByText := true, laidKinds := [.data], laidTests := true, laidLooks := .later }
def IntsAddsUptoCardSaid : Prop := Claim7.holds Tryd.pinned (.plain (OpenSpec.upto intsAddsSpec)) intsAddsUptoCard

/-- THE SECOND FORM's CARD OF 'pianolalaw01.IntsSums'. -/
def intsSumsUptoCard : Claim7 := { stood := { row := intsSumsUptoRow, standIns := [], harness := (true, "3542cfddcca68e71cbefdc1f64b78fad68ad587973ca703605d2500845168714"), looks := false }, kinds := [], alts := [], laidByText := true, laidKinds := [.data], laidTests := true, laidLooks := .later }
def IntsSumsUptoCardSaid : Prop := Claim7.holds Tryd.pinned (.plain (OpenSpec.upto intsSumsSpec)) intsSumsUptoCard

/-- THE SECOND FORM's CARD OF 'pianolalaw01.IntsGcds'. -/
def intsGcdsUptoCard : Claim7 := { stood := { row := intsGcdsUptoRow, standIns := [], harness := (true, "3542cfddcca68e71cbefdc1f64b78fad68ad587973ca703605d2500845168714"), looks := false }, kinds := [], alts := [], laidByText := true, laidKinds := [.data], laidTests := true, laidLooks := .later }
def IntsGcdsUptoCardSaid : Prop := Claim7.holds Tryd.pinned (.plain (OpenSpec.upto intsGcdsSpec)) intsGcdsUptoCard

/-- THE SECOND FORM's CARD OF 'pianolalaw01.IntsLcms'. -/
def intsLcmsUptoCard : Claim7 := { stood := { row := intsLcmsUptoRow, standIns := [], harness := (true, "3542cfddcca68e71cbefdc1f64b78fad68ad587973ca703605d2500845168714"), looks := false }, kinds := [], alts := [], laidByText := true, laidKinds := [.data], laidTests := true, laidLooks := .later }
def IntsLcmsUptoCardSaid : Prop := Claim7.holds Tryd.pinned (.plain (OpenSpec.upto intsLcmsSpec)) intsLcmsUptoCard

/-- THE SECOND FORM's CARD OF 'pianolalaw01.IntsDots'. -/
def intsDotsUptoCard : Claim7 := { stood := { row := intsDotsUptoRow, standIns := [], harness := (true, "3542cfddcca68e71cbefdc1f64b78fad68ad587973ca703605d2500845168714"), looks := false }, kinds := [], alts := [], laidByText := true, laidKinds := [.data], laidTests := true, laidLooks := .later }
def IntsDotsUptoCardSaid : Prop := Claim7.holds Tryd.pinned (.plain (OpenSpec.upto intsDotsSpec)) intsDotsUptoCard

/-- THE SECOND FORM's CARD OF 'pianolalaw01.IntsBack'. -/
def intsBackUptoCard : Claim7 := { stood := { row := intsBackUptoRow, standIns := [], harness := (true, "3542cfddcca68e71cbefdc1f64b78fad68ad587973ca703605d2500845168714"), looks := false }, kinds := [], alts := [], laidByText := true, laidKinds := [.data], laidTests := true, laidLooks := .later }
def IntsBackUptoCardSaid : Prop := Claim7.holds Tryd.pinned (.plain (OpenSpec.upto intsBackSpec)) intsBackUptoCard

/-- THE SECOND FORM's CARD OF 'pianolalaw01.IntsDivides'. -/
def intsDividesUptoCard : Claim7 := { stood := { row := intsDividesUptoRow, standIns := [], harness := (true, "3542cfddcca68e71cbefdc1f64b78fad68ad587973ca703605d2500845168714"), looks := false }, kinds := [], alts := [], laidByText := true, laidKinds := [.data], laidTests := true, laidLooks := .later }
def IntsDividesUptoCardSaid : Prop := Claim7.holds Tryd.pinned (.plain (OpenSpec.upto intsDividesSpec)) intsDividesUptoCard

/-- THE SECOND FORM's CARD OF 'pianolalaw01.IntsMultiple'. -/
def intsMultipleUptoCard : Claim7 := { stood := { row := intsMultipleUptoRow, standIns := [], harness := (true, "3542cfddcca68e71cbefdc1f64b78fad68ad587973ca703605d2500845168714"), looks := false }, kinds := [], alts := [], laidByText := true, laidKinds := [.data], laidTests := true, laidLooks := .later }
def IntsMultipleUptoCardSaid : Prop := Claim7.holds Tryd.pinned (.plain (OpenSpec.upto intsMultipleSpec)) intsMultipleUptoCard

/-- THE SECOND FORM's CARD OF 'pianolalaw01.IntsJoins'. -/
def intsJoinsUptoCard : Claim7 := { stood := { row := intsJoinsUptoRow, standIns := [], harness := (true, "3542cfddcca68e71cbefdc1f64b78fad68ad587973ca703605d2500845168714"), looks := false }, kinds := [], alts := [], laidByText := true, laidKinds := [.data], laidTests := true, laidLooks := .later }
def IntsJoinsUptoCardSaid : Prop := Claim7.holds Tryd.pinned (.plain (OpenSpec.upto intsJoinsSpec)) intsJoinsUptoCard

/-- THE SECOND FORM's CARD OF 'pianolalaw01.IntsProduct'. -/
def intsProductUptoCard : Claim7 := { stood := { row := intsProductUptoRow, standIns := [], harness := (true, "3542cfddcca68e71cbefdc1f64b78fad68ad587973ca703605d2500845168714"), looks := false }, kinds := [], alts := [], laidByText := true, laidKinds := [.data], laidTests := true, laidLooks := .later }
def IntsProductUptoCardSaid : Prop := Claim7.holds Tryd.pinned (.plain (OpenSpec.upto intsProductSpec)) intsProductUptoCard

/-- THE SECOND FORM's CARD OF 'pianolalaw01.IntsNames'. -/
def intsNamesUptoCard : Claim7 := { stood := { row := intsNamesUptoRow, standIns := [], harness := (true, "3542cfddcca68e71cbefdc1f64b78fad68ad587973ca703605d2500845168714"), looks := false }, kinds := [], alts := [], laidByText := true, laidKinds := [.data], laidTests := true, laidLooks := .later }
def IntsNamesUptoCardSaid : Prop := Claim7.holds Tryd.pinned (.plain (OpenSpec.upto intsNamesSpec)) intsNamesUptoCard
end Rows
end Go.Proofs.YtlnbmjebkpkclaaDoor
