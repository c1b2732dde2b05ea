/-
  NARROWER THAN 'FOR EVERY INPUT', by the rows' own cells (each row's printed sentence says how): CancelReduces: laid · CancelEquals: laid · CancelRatios: laid · CancelCoprime: laid · CancelTurns: laid · CancelOrder: laid · CancelExact: laid · CancelNames: laid.
  DERIVED. THE GIVEN ROWS OF THIS SEAT. 8 by the template 'for every input the law returns true; each argument reads behind the call as it read before'; 0 by the template 'total and deterministic' (their statements: YtblkcdenmgkddaaDoorTotals.lean).
  GIVEN WITH THE SEED: the statements are not yours to turn. If you find one false, say at which input.
  Laid BY PROGRAM, IN A SANDBOX (cutbox-rows.mjs): the forced cells as the released guide's own fill.sh prints them over the translation 98f5d45d2ea47361… (all of the seat's roots in one cut). By AI agents, Wed Nov 11 2026. No macro, syntax, notation, axiom, sorry.
-/
import Derived.Test.YtblkcdenmgkddaaDoorChecked
import GoSem.Claim
import GoSem.ClaimJoined
import GoSem.ClaimMapViews
import Derived.JoinedTies
import Derived.KernelRfl
namespace Go.Proofs.YtblkcdenmgkddaaDoor
/- THE CELL 'sum', in the pinned program and in every row, IS THE sha256 OF THE DUMP (.gsa) THAT YtblkcdenmgkddaaDoorProg.lean LOADS. Nothing in Lean hashes anything: it is a label: what it is worth is what the hold of that sum in a sandbox is worth. -/
noncomputable def Tryd.pinned : Pinned := { name := "ytblkcdenmgkddaadoor", sum := "98f5d45d2ea47361d63d1de6218d7a8229d4fa882e8b1bded4854524edb80abf", checked := Tryd.checked }
namespace Rows
def none {H : Type} : Left H := { results := [], args := [] }

/- WHAT THE LISTED PACKAGE-LEVEL VARIABLES READ AS WHEN THE CALL BEGINS. Each datum BY PROGRAM (the guide's laid-datum.mjs) off the statement by which the dump's own 'gosem.cut.vars' lays the variable. In a bare row this is a premise. The card (YtblkcdenmgkddaaDoorCards.lean) ties it to the program's text. -/
def laid_math_bits_deBruijn64tab {H : Type} : DataW H := .agg [.lit (.int .u8 0), .lit (.int .u8 1), .lit (.int .u8 56), .lit (.int .u8 2), .lit (.int .u8 57), .lit (.int .u8 49), .lit (.int .u8 28), .lit (.int .u8 3), .lit (.int .u8 61), .lit (.int .u8 58), .lit (.int .u8 42), .lit (.int .u8 50), .lit (.int .u8 38), .lit (.int .u8 29), .lit (.int .u8 17), .lit (.int .u8 4), .lit (.int .u8 62), .lit (.int .u8 47), .lit (.int .u8 59), .lit (.int .u8 36), .lit (.int .u8 45), .lit (.int .u8 43), .lit (.int .u8 51), .lit (.int .u8 22), .lit (.int .u8 53), .lit (.int .u8 39), .lit (.int .u8 33), .lit (.int .u8 30), .lit (.int .u8 24), .lit (.int .u8 18), .lit (.int .u8 12), .lit (.int .u8 5), .lit (.int .u8 63), .lit (.int .u8 55), .lit (.int .u8 48), .lit (.int .u8 27), .lit (.int .u8 60), .lit (.int .u8 41), .lit (.int .u8 37), .lit (.int .u8 16), .lit (.int .u8 46), .lit (.int .u8 35), .lit (.int .u8 44), .lit (.int .u8 21), .lit (.int .u8 52), .lit (.int .u8 32), .lit (.int .u8 23), .lit (.int .u8 11), .lit (.int .u8 54), .lit (.int .u8 26), .lit (.int .u8 40), .lit (.int .u8 15), .lit (.int .u8 34), .lit (.int .u8 20), .lit (.int .u8 31), .lit (.int .u8 10), .lit (.int .u8 25), .lit (.int .u8 14), .lit (.int .u8 19), .lit (.int .u8 9), .lit (.int .u8 13), .lit (.int .u8 8), .lit (.int .u8 7), .lit (.int .u8 6)]

/-- 'pianolalaw03.CancelReduces': WHATEVER THE INPUT: true; the input reads as it did. -/
def cancelReducesSpec : ChangeSpec := { name := "cancelReduces", fn := fun _ => fun
  | [d1, d2] => { results := [.lit (.bool true)], args := [d1, d2] }
  | _ => none }
def cancelReducesRow : OpenClaim := { program := "ytblkcdenmgkddaadoor", sum := "98f5d45d2ea47361d63d1de6218d7a8229d4fa882e8b1bded4854524edb80abf", func := "pianola/pianolalaw03.CancelReduces", spec := "cancelReduces", unfollowed := true, recurses := true, named := ["math/bits.deBruijn64tab"], apart := false, laid := [("math/bits.deBruijn64tab", laid_math_bits_deBruijn64tab)] }
def CancelReducesSaid : Prop := cancelReducesRow.holds Tryd.pinned (OpenSpec.ofChange cancelReducesSpec)

/-- ITS FALSE NEIGHBOUR: 'it returns false'. Refute it at one input. -/
def cancelReducesWrong : ChangeSpec := { name := "cancelReduces", fn := fun _ => fun
  | [d1, d2] => { results := [.lit (.bool false)], args := [d1, d2] }
  | _ => none }
def CancelReducesWrongFalsely : Prop := cancelReducesRow.holds Tryd.pinned (OpenSpec.ofChange cancelReducesWrong)

/-- 'pianolalaw03.CancelEquals': WHATEVER THE INPUT: true; the input reads as it did. -/
def cancelEqualsSpec : ChangeSpec := { name := "cancelEquals", fn := fun _ => fun
  | [d1, d2] => { results := [.lit (.bool true)], args := [d1, d2] }
  | _ => none }
def cancelEqualsRow : OpenClaim := { program := "ytblkcdenmgkddaadoor", sum := "98f5d45d2ea47361d63d1de6218d7a8229d4fa882e8b1bded4854524edb80abf", func := "pianola/pianolalaw03.CancelEquals", spec := "cancelEquals", unfollowed := true, recurses := true, named := ["math/bits.deBruijn64tab"], apart := false, laid := [("math/bits.deBruijn64tab", laid_math_bits_deBruijn64tab)] }
def CancelEqualsSaid : Prop := cancelEqualsRow.holds Tryd.pinned (OpenSpec.ofChange cancelEqualsSpec)

/-- ITS FALSE NEIGHBOUR: 'it returns false'. Refute it at one input. -/
def cancelEqualsWrong : ChangeSpec := { name := "cancelEquals", fn := fun _ => fun
  | [d1, d2] => { results := [.lit (.bool false)], args := [d1, d2] }
  | _ => none }
def CancelEqualsWrongFalsely : Prop := cancelEqualsRow.holds Tryd.pinned (OpenSpec.ofChange cancelEqualsWrong)

/-- 'pianolalaw03.CancelRatios': WHATEVER THE INPUT: true; the input reads as it did. -/
def cancelRatiosSpec : ChangeSpec := { name := "cancelRatios", fn := fun _ => fun
  | [d1, d2] => { results := [.lit (.bool true)], args := [d1, d2] }
  | _ => none }
def cancelRatiosRow : OpenClaim := { program := "ytblkcdenmgkddaadoor", sum := "98f5d45d2ea47361d63d1de6218d7a8229d4fa882e8b1bded4854524edb80abf", func := "pianola/pianolalaw03.CancelRatios", spec := "cancelRatios", unfollowed := true, recurses := true, named := ["math/bits.deBruijn64tab"], apart := false, laid := [("math/bits.deBruijn64tab", laid_math_bits_deBruijn64tab)] }
def CancelRatiosSaid : Prop := cancelRatiosRow.holds Tryd.pinned (OpenSpec.ofChange cancelRatiosSpec)

/-- ITS FALSE NEIGHBOUR: 'it returns false'. Refute it at one input. -/
def cancelRatiosWrong : ChangeSpec := { name := "cancelRatios", fn := fun _ => fun
  | [d1, d2] => { results := [.lit (.bool false)], args := [d1, d2] }
  | _ => none }
def CancelRatiosWrongFalsely : Prop := cancelRatiosRow.holds Tryd.pinned (OpenSpec.ofChange cancelRatiosWrong)

/-- 'pianolalaw03.CancelCoprime': WHATEVER THE INPUT: true; the input reads as it did. -/
def cancelCoprimeSpec : ChangeSpec := { name := "cancelCoprime", fn := fun _ => fun
  | [d1, d2] => { results := [.lit (.bool true)], args := [d1, d2] }
  | _ => none }
def cancelCoprimeRow : OpenClaim := { program := "ytblkcdenmgkddaadoor", sum := "98f5d45d2ea47361d63d1de6218d7a8229d4fa882e8b1bded4854524edb80abf", func := "pianola/pianolalaw03.CancelCoprime", spec := "cancelCoprime", unfollowed := true, recurses := true, named := ["math/bits.deBruijn64tab"], apart := false, laid := [("math/bits.deBruijn64tab", laid_math_bits_deBruijn64tab)] }
def CancelCoprimeSaid : Prop := cancelCoprimeRow.holds Tryd.pinned (OpenSpec.ofChange cancelCoprimeSpec)

/-- ITS FALSE NEIGHBOUR: 'it returns false'. Refute it at one input. -/
def cancelCoprimeWrong : ChangeSpec := { name := "cancelCoprime", fn := fun _ => fun
  | [d1, d2] => { results := [.lit (.bool false)], args := [d1, d2] }
  | _ => none }
def CancelCoprimeWrongFalsely : Prop := cancelCoprimeRow.holds Tryd.pinned (OpenSpec.ofChange cancelCoprimeWrong)

/-- 'pianolalaw03.CancelTurns': WHATEVER THE INPUT: true; the input reads as it did. -/
def cancelTurnsSpec : ChangeSpec := { name := "cancelTurns", fn := fun _ => fun
  | [d1, d2] => { results := [.lit (.bool true)], args := [d1, d2] }
  | _ => none }
def cancelTurnsRow : OpenClaim := { program := "ytblkcdenmgkddaadoor", sum := "98f5d45d2ea47361d63d1de6218d7a8229d4fa882e8b1bded4854524edb80abf", func := "pianola/pianolalaw03.CancelTurns", spec := "cancelTurns", unfollowed := true, recurses := true, named := ["math/bits.deBruijn64tab"], apart := false, laid := [("math/bits.deBruijn64tab", laid_math_bits_deBruijn64tab)] }
def CancelTurnsSaid : Prop := cancelTurnsRow.holds Tryd.pinned (OpenSpec.ofChange cancelTurnsSpec)

/-- ITS FALSE NEIGHBOUR: 'it returns false'. Refute it at one input. -/
def cancelTurnsWrong : ChangeSpec := { name := "cancelTurns", fn := fun _ => fun
  | [d1, d2] => { results := [.lit (.bool false)], args := [d1, d2] }
  | _ => none }
def CancelTurnsWrongFalsely : Prop := cancelTurnsRow.holds Tryd.pinned (OpenSpec.ofChange cancelTurnsWrong)

/-- 'pianolalaw03.CancelOrder': WHATEVER THE INPUT: true; the input reads as it did. -/
def cancelOrderSpec : ChangeSpec := { name := "cancelOrder", fn := fun _ => fun
  | [d1, d2, d3] => { results := [.lit (.bool true)], args := [d1, d2, d3] }
  | _ => none }
def cancelOrderRow : OpenClaim := { program := "ytblkcdenmgkddaadoor", sum := "98f5d45d2ea47361d63d1de6218d7a8229d4fa882e8b1bded4854524edb80abf", func := "pianola/pianolalaw03.CancelOrder", spec := "cancelOrder", unfollowed := true, recurses := true, named := ["math/bits.deBruijn64tab"], apart := false, laid := [("math/bits.deBruijn64tab", laid_math_bits_deBruijn64tab)] }
def CancelOrderSaid : Prop := cancelOrderRow.holds Tryd.pinned (OpenSpec.ofChange cancelOrderSpec)

/-- ITS FALSE NEIGHBOUR: 'it returns false'. Refute it at one input. -/
def cancelOrderWrong : ChangeSpec := { name := "cancelOrder", fn := fun _ => fun
  | [d1, d2, d3] => { results := [.lit (.bool false)], args := [d1, d2, d3] }
  | _ => none }
def CancelOrderWrongFalsely : Prop := cancelOrderRow.holds Tryd.pinned (OpenSpec.ofChange cancelOrderWrong)

/-- 'pianolalaw03.CancelExact': WHATEVER THE INPUT: true; the input reads as it did. -/
def cancelExactSpec : ChangeSpec := { name := "cancelExact", fn := fun _ => fun
  | [d1, d2] => { results := [.lit (.bool true)], args := [d1, d2] }
  | _ => none }
def cancelExactRow : OpenClaim := { program := "ytblkcdenmgkddaadoor", sum := "98f5d45d2ea47361d63d1de6218d7a8229d4fa882e8b1bded4854524edb80abf", func := "pianola/pianolalaw03.CancelExact", spec := "cancelExact", unfollowed := true, recurses := true, named := ["math/bits.deBruijn64tab"], apart := false, laid := [("math/bits.deBruijn64tab", laid_math_bits_deBruijn64tab)] }
def CancelExactSaid : Prop := cancelExactRow.holds Tryd.pinned (OpenSpec.ofChange cancelExactSpec)

/-- ITS FALSE NEIGHBOUR: 'it returns false'. Refute it at one input. -/
def cancelExactWrong : ChangeSpec := { name := "cancelExact", fn := fun _ => fun
  | [d1, d2] => { results := [.lit (.bool false)], args := [d1, d2] }
  | _ => none }
def CancelExactWrongFalsely : Prop := cancelExactRow.holds Tryd.pinned (OpenSpec.ofChange cancelExactWrong)

/-- 'pianolalaw03.CancelNames': WHATEVER THE INPUT: true; the input reads as it did. -/
def cancelNamesSpec : ChangeSpec := { name := "cancelNames", fn := fun _ => fun
  | [] => { results := [.lit (.bool true)], args := [] }
  | _ => none }
def cancelNamesRow : OpenClaim := { program := "ytblkcdenmgkddaadoor", sum := "98f5d45d2ea47361d63d1de6218d7a8229d4fa882e8b1bded4854524edb80abf", func := "pianola/pianolalaw03.CancelNames", spec := "cancelNames", unfollowed := true, recurses := true, named := ["math/bits.deBruijn64tab"], apart := false, laid := [("math/bits.deBruijn64tab", laid_math_bits_deBruijn64tab)] }
def CancelNamesSaid : Prop := cancelNamesRow.holds Tryd.pinned (OpenSpec.ofChange cancelNamesSpec)

/-- ITS FALSE NEIGHBOUR: 'it returns false'. Refute it at one input. -/
def cancelNamesWrong : ChangeSpec := { name := "cancelNames", fn := fun _ => fun
  | [] => { results := [.lit (.bool false)], args := [] }
  | _ => none }
def CancelNamesWrongFalsely : Prop := cancelNamesRow.holds Tryd.pinned (OpenSpec.ofChange cancelNamesWrong)

/- THE SECOND FORM. 'bulk': how many values and letters a reading holds, each counted each time it is reached (what is shared counts as often as it is met; a slice's spare places count too). A statement '..UptoSaid' is the law's where the arguments, and the package variables that the reading takes, are together of bulk at most 1048576: NARROWER than '..Said'. Prove '..Said' where nothing that the law and all that it calls make is longer than what came in: it says more and counts as full. Else prove '..UptoSaid'. A law counts once. -/
mutual
def uptoBulk {H : Type} : DataW H → Nat
  | .lit (.string bytes) => bytes.length + 1
  | .lit _ => 1
  | .nil => 1
  | .ptr d => uptoBulk d + 1
  | .slice elems spare => uptoBulkAll elems + uptoBulkAll spare + 1
  | .agg parts => uptoBulkAll parts + 1
  | .iface _ d => uptoBulk d + 1
  | .map entries => uptoBulkEntries entries + 1
  | .held _ => 1
def uptoBulkAll {H : Type} : List (DataW H) → Nat
  | [] => 0
  | d :: r => uptoBulk d + uptoBulkAll r
def uptoBulkEntries {H : Type} : List (Lit × DataW H) → Nat
  | [] => 0
  | x :: r => uptoBulkEntry x + uptoBulkEntries r
def uptoBulkEntry {H : Type} : Lit × DataW H → Nat
  | (.string bytes, d) => bytes.length + uptoBulk d + 1
  | (_, d) => uptoBulk d + 1
 end
def uptoSmall : (H : Type) → List (DataW H) → Bool := fun _ ds => decide (uptoBulkAll ds ≤ 1048576)
def OpenSpec.upto (s : _root_.Go.ChangeSpec) : _root_.Go.OpenSpec := { _root_.Go.OpenSpec.ofChange s with cond := some uptoSmall }

/-- 'pianolalaw03.CancelReduces', WHERE WHAT IT READS IS OF BULK AT MOST 1048576: true; the input reads as it did. -/
def cancelReducesUptoRow : OpenClaim := { program := "ytblkcdenmgkddaadoor", sum := "98f5d45d2ea47361d63d1de6218d7a8229d4fa882e8b1bded4854524edb80abf", func := "pianola/pianolalaw03.CancelReduces", spec := "cancelReduces", unfollowed := true, recurses := true, named := ["math/bits.deBruijn64tab"], apart := false, laid := [("math/bits.deBruijn64tab", laid_math_bits_deBruijn64tab)], narrowed := true }
def CancelReducesUptoSaid : Prop := cancelReducesUptoRow.holds Tryd.pinned (OpenSpec.upto cancelReducesSpec)

/-- 'pianolalaw03.CancelEquals', WHERE WHAT IT READS IS OF BULK AT MOST 1048576: true; the input reads as it did. -/
def cancelEqualsUptoRow : OpenClaim := { program := "ytblkcdenmgkddaadoor", sum := "98f5d45d2ea47361d63d1de6218d7a8229d4fa882e8b1bded4854524edb80abf", func := "pianola/pianolalaw03.CancelEquals", spec := "cancelEquals", unfollowed := true, recurses := true, named := ["math/bits.deBruijn64tab"], apart := false, laid := [("math/bits.deBruijn64tab", laid_math_bits_deBruijn64tab)], narrowed := true }
def CancelEqualsUptoSaid : Prop := cancelEqualsUptoRow.holds Tryd.pinned (OpenSpec.upto cancelEqualsSpec)

/-- 'pianolalaw03.CancelRatios', WHERE WHAT IT READS IS OF BULK AT MOST 1048576: true; the input reads as it did. -/
def cancelRatiosUptoRow : OpenClaim := { program := "ytblkcdenmgkddaadoor", sum := "98f5d45d2ea47361d63d1de6218d7a8229d4fa882e8b1bded4854524edb80abf", func := "pianola/pianolalaw03.CancelRatios", spec := "cancelRatios", unfollowed := true, recurses := true, named := ["math/bits.deBruijn64tab"], apart := false, laid := [("math/bits.deBruijn64tab", laid_math_bits_deBruijn64tab)], narrowed := true }
def CancelRatiosUptoSaid : Prop := cancelRatiosUptoRow.holds Tryd.pinned (OpenSpec.upto cancelRatiosSpec)

/-- 'pianolalaw03.CancelCoprime', WHERE WHAT IT READS IS OF BULK AT MOST 1048576: true; the input reads as it did. -/
def cancelCoprimeUptoRow : OpenClaim := { program := "ytblkcdenmgkddaadoor", sum := "98f5d45d2ea47361d63d1de6218d7a8229d4fa882e8b1bded4854524edb80abf", func := "pianola/pianolalaw03.CancelCoprime", spec := "cancelCoprime", unfollowed := true, recurses := true, named := ["math/bits.deBruijn64tab"], apart := false, laid := [("math/bits.deBruijn64tab", laid_math_bits_deBruijn64tab)], narrowed := true }
def CancelCoprimeUptoSaid : Prop := cancelCoprimeUptoRow.holds Tryd.pinned (OpenSpec.upto cancelCoprimeSpec)

/-- 'pianolalaw03.CancelTurns', WHERE WHAT IT READS IS OF BULK AT MOST 1048576: true; the input reads as it did. -/
def cancelTurnsUptoRow : OpenClaim := { program := "ytblkcdenmgkddaadoor", sum := "98f5d45d2ea47361d63d1de6218d7a8229d4fa882e8b1bded4854524edb80abf", func := "pianola/pianolalaw03.CancelTurns", spec := "cancelTurns", unfollowed := true, recurses := true, named := ["math/bits.deBruijn64tab"], apart := false, laid := [("math/bits.deBruijn64tab", laid_math_bits_deBruijn64tab)], narrowed := true }
def CancelTurnsUptoSaid : Prop := cancelTurnsUptoRow.holds Tryd.pinned (OpenSpec.upto cancelTurnsSpec)

/-- 'pianolalaw03.CancelOrder', WHERE WHAT IT READS IS OF BULK AT MOST 1048576: true; the input reads as it did. -/
def cancelOrderUptoRow : OpenClaim := { program := "ytblkcdenmgkddaadoor", sum := "98f5d45d2ea47361d63d1de6218d7a8229d4fa882e8b1bded4854524edb80abf", func := "pianola/pianolalaw03.CancelOrder", spec := "cancelOrder", unfollowed := true, recurses := true, named := ["math/bits.deBruijn64tab"], apart := false, laid := [("math/bits.deBruijn64tab", laid_math_bits_deBruijn64tab)], narrowed := true }
def CancelOrderUptoSaid : Prop := cancelOrderUptoRow.holds Tryd.pinned (OpenSpec.upto cancelOrderSpec)

/-- 'pianolalaw03.CancelExact', WHERE WHAT IT READS IS OF BULK AT MOST 1048576: true; the input reads as it did. -/
def cancelExactUptoRow : OpenClaim := { program := "ytblkcdenmgkddaadoor", sum := "98f5d45d2ea47361d63d1de6218d7a8229d4fa882e8b1bded4854524edb80abf", func := "pianola/pianolalaw03.CancelExact", spec := "cancelExact", unfollowed := true, recurses := true, named := ["math/bits.deBruijn64tab"], apart := false, laid := [("math/bits.deBruijn64tab", laid_math_bits_deBruijn64tab)], narrowed := true }
def CancelExactUptoSaid : Prop := cancelExactUptoRow.holds Tryd.pinned (OpenSpec.upto cancelExactSpec)

/-- 'pianolalaw03.CancelNames', WHERE WHAT IT READS IS OF BULK AT MOST 1048576: true; the input reads as it did. -/
def cancelNamesUptoRow : OpenClaim := { program := "ytblkcdenmgkddaadoor", sum := "98f5d45d2ea47361d63d1de6218d7a8229d4fa882e8b1bded4854524edb80abf", func := "pianola/pianolalaw03.CancelNames", spec := "cancelNames", unfollowed := true, recurses := true, named := ["math/bits.deBruijn64tab"], apart := false, laid := [("math/bits.deBruijn64tab", laid_math_bits_deBruijn64tab)], narrowed := true }
def CancelNamesUptoSaid : Prop := cancelNamesUptoRow.holds Tryd.pinned (OpenSpec.upto cancelNamesSpec)

end Rows
end Go.Proofs.YtblkcdenmgkddaaDoor
