/-
  No cell of these rows narrows 'for every input' (looked for: loops, veiled, ifaces, maps, wideKeys, modest, calm, conditions, laid).
  DERIVED. THE GIVEN ROWS OF THIS SEAT. 12 by the template 'for every input the law returns true; each argument reads behind the call as it read before'; 0 by the template 'total and deterministic' (their statements: YtfielhbepnkekaaTotals.lean).
  GIVEN WITH THE SEED: the statements are not yours to turn. If you find one false, say at which input.
  Laid BY PROGRAM, IN A SANDBOX (cutbox-rows.mjs): the forced cells as the released guide's own fill.sh prints them over the translation 404e4b1d3b6ac67d… (all of the seat's roots in one cut). By AI agents, Wed Nov 11 2026. No macro, syntax, notation, axiom, sorry.
-/
import Derived.Test.YtfielhbepnkekaaChecked
import GoSem.Claim
import GoSem.ClaimJoined
import GoSem.ClaimMapViews
import Derived.JoinedTies
import Derived.KernelRfl
namespace Go.Proofs.Ytfielhbepnkekaa
/- THE CELL 'sum', in the pinned program and in every row, IS THE sha256 OF THE DUMP (.gsa) THAT YtfielhbepnkekaaProg.lean LOADS. Nothing in Lean hashes anything: it is a label: what it is worth is what the hold of that sum in a sandbox is worth. -/
noncomputable def Try.pinned : Pinned := { name := "ytfielhbepnkekaa", sum := "404e4b1d3b6ac67d792a0e66c93d5a3cc2f00f3eb946feed048c114723ac8b51", checked := Try.checked }
namespace Rows
def none {H : Type} : Left H := { results := [], args := [] }

/-- 'pianolalaw02.FracNews': WHATEVER THE INPUT: true; the input reads as it did. -/
def fracNewsSpec : ChangeSpec := { name := "fracNews", fn := fun _ => fun
  | [d1, d2] => { results := [.lit (.bool true)], args := [d1, d2] }
  | _ => none }
def fracNewsRow : OpenClaim := { program := "ytfielhbepnkekaa", sum := "404e4b1d3b6ac67d792a0e66c93d5a3cc2f00f3eb946feed048c114723ac8b51", func := "pianola/pianolalaw02.FracNews", spec := "fracNews", unfollowed := true, recurses := true, apart := false }
def FracNewsSaid : Prop := fracNewsRow.holds Try.pinned (OpenSpec.ofChange fracNewsSpec)

/-- ITS FALSE NEIGHBOUR: 'it returns false'. Refute it at one input. -/
def fracNewsWrong : ChangeSpec := { name := "fracNews", fn := fun _ => fun
  | [d1, d2] => { results := [.lit (.bool false)], args := [d1, d2] }
  | _ => none }
def FracNewsWrongFalsely : Prop := fracNewsRow.holds Try.pinned (OpenSpec.ofChange fracNewsWrong)

/-- 'pianolalaw02.FracMuls': WHATEVER THE INPUT: true; the input reads as it did. -/
def fracMulsSpec : ChangeSpec := { name := "fracMuls", fn := fun _ => fun
  | [d] => { results := [.lit (.bool true)], args := [d] }
  | _ => none }
def fracMulsRow : OpenClaim := { program := "ytfielhbepnkekaa", sum := "404e4b1d3b6ac67d792a0e66c93d5a3cc2f00f3eb946feed048c114723ac8b51", func := "pianola/pianolalaw02.FracMuls", spec := "fracMuls", unfollowed := true, recurses := true, apart := false }
def FracMulsSaid : Prop := fracMulsRow.holds Try.pinned (OpenSpec.ofChange fracMulsSpec)

/-- ITS FALSE NEIGHBOUR: 'it returns false'. Refute it at one input. -/
def fracMulsWrong : ChangeSpec := { name := "fracMuls", fn := fun _ => fun
  | [d] => { results := [.lit (.bool false)], args := [d] }
  | _ => none }
def FracMulsWrongFalsely : Prop := fracMulsRow.holds Try.pinned (OpenSpec.ofChange fracMulsWrong)

/-- 'pianolalaw02.FracInvs': WHATEVER THE INPUT: true; the input reads as it did. -/
def fracInvsSpec : ChangeSpec := { name := "fracInvs", fn := fun _ => fun
  | [d] => { results := [.lit (.bool true)], args := [d] }
  | _ => none }
def fracInvsRow : OpenClaim := { program := "ytfielhbepnkekaa", sum := "404e4b1d3b6ac67d792a0e66c93d5a3cc2f00f3eb946feed048c114723ac8b51", func := "pianola/pianolalaw02.FracInvs", spec := "fracInvs", unfollowed := true, recurses := true, apart := false }
def FracInvsSaid : Prop := fracInvsRow.holds Try.pinned (OpenSpec.ofChange fracInvsSpec)

/-- ITS FALSE NEIGHBOUR: 'it returns false'. Refute it at one input. -/
def fracInvsWrong : ChangeSpec := { name := "fracInvs", fn := fun _ => fun
  | [d] => { results := [.lit (.bool false)], args := [d] }
  | _ => none }
def FracInvsWrongFalsely : Prop := fracInvsRow.holds Try.pinned (OpenSpec.ofChange fracInvsWrong)

/-- 'pianolalaw02.FracCmps': WHATEVER THE INPUT: true; the input reads as it did. -/
def fracCmpsSpec : ChangeSpec := { name := "fracCmps", fn := fun _ => fun
  | [d1, d2] => { results := [.lit (.bool true)], args := [d1, d2] }
  | _ => none }
def fracCmpsRow : OpenClaim := { program := "ytfielhbepnkekaa", sum := "404e4b1d3b6ac67d792a0e66c93d5a3cc2f00f3eb946feed048c114723ac8b51", func := "pianola/pianolalaw02.FracCmps", spec := "fracCmps", unfollowed := true, recurses := true, apart := false }
def FracCmpsSaid : Prop := fracCmpsRow.holds Try.pinned (OpenSpec.ofChange fracCmpsSpec)

/-- ITS FALSE NEIGHBOUR: 'it returns false'. Refute it at one input. -/
def fracCmpsWrong : ChangeSpec := { name := "fracCmps", fn := fun _ => fun
  | [d1, d2] => { results := [.lit (.bool false)], args := [d1, d2] }
  | _ => none }
def FracCmpsWrongFalsely : Prop := fracCmpsRow.holds Try.pinned (OpenSpec.ofChange fracCmpsWrong)

/-- 'pianolalaw02.FracScales': WHATEVER THE INPUT: true; the input reads as it did. -/
def fracScalesSpec : ChangeSpec := { name := "fracScales", fn := fun _ => fun
  | [d] => { results := [.lit (.bool true)], args := [d] }
  | _ => none }
def fracScalesRow : OpenClaim := { program := "ytfielhbepnkekaa", sum := "404e4b1d3b6ac67d792a0e66c93d5a3cc2f00f3eb946feed048c114723ac8b51", func := "pianola/pianolalaw02.FracScales", spec := "fracScales", unfollowed := true, recurses := true, apart := false }
def FracScalesSaid : Prop := fracScalesRow.holds Try.pinned (OpenSpec.ofChange fracScalesSpec)

/-- ITS FALSE NEIGHBOUR: 'it returns false'. Refute it at one input. -/
def fracScalesWrong : ChangeSpec := { name := "fracScales", fn := fun _ => fun
  | [d] => { results := [.lit (.bool false)], args := [d] }
  | _ => none }
def FracScalesWrongFalsely : Prop := fracScalesRow.holds Try.pinned (OpenSpec.ofChange fracScalesWrong)

/-- 'pianolalaw02.FracLowest': WHATEVER THE INPUT: true; the input reads as it did. -/
def fracLowestSpec : ChangeSpec := { name := "fracLowest", fn := fun _ => fun
  | [d1, d2] => { results := [.lit (.bool true)], args := [d1, d2] }
  | _ => none }
def fracLowestRow : OpenClaim := { program := "ytfielhbepnkekaa", sum := "404e4b1d3b6ac67d792a0e66c93d5a3cc2f00f3eb946feed048c114723ac8b51", func := "pianola/pianolalaw02.FracLowest", spec := "fracLowest", unfollowed := true, recurses := true, apart := false }
def FracLowestSaid : Prop := fracLowestRow.holds Try.pinned (OpenSpec.ofChange fracLowestSpec)

/-- ITS FALSE NEIGHBOUR: 'it returns false'. Refute it at one input. -/
def fracLowestWrong : ChangeSpec := { name := "fracLowest", fn := fun _ => fun
  | [d1, d2] => { results := [.lit (.bool false)], args := [d1, d2] }
  | _ => none }
def FracLowestWrongFalsely : Prop := fracLowestRow.holds Try.pinned (OpenSpec.ofChange fracLowestWrong)

/-- 'pianolalaw02.FracWorth': WHATEVER THE INPUT: true; the input reads as it did. -/
def fracWorthSpec : ChangeSpec := { name := "fracWorth", fn := fun _ => fun
  | [d1, d2, d3] => { results := [.lit (.bool true)], args := [d1, d2, d3] }
  | _ => none }
def fracWorthRow : OpenClaim := { program := "ytfielhbepnkekaa", sum := "404e4b1d3b6ac67d792a0e66c93d5a3cc2f00f3eb946feed048c114723ac8b51", func := "pianola/pianolalaw02.FracWorth", spec := "fracWorth", unfollowed := true, recurses := true, apart := false }
def FracWorthSaid : Prop := fracWorthRow.holds Try.pinned (OpenSpec.ofChange fracWorthSpec)

/-- ITS FALSE NEIGHBOUR: 'it returns false'. Refute it at one input. -/
def fracWorthWrong : ChangeSpec := { name := "fracWorth", fn := fun _ => fun
  | [d1, d2, d3] => { results := [.lit (.bool false)], args := [d1, d2, d3] }
  | _ => none }
def FracWorthWrongFalsely : Prop := fracWorthRow.holds Try.pinned (OpenSpec.ofChange fracWorthWrong)

/-- 'pianolalaw02.FracExact': WHATEVER THE INPUT: true; the input reads as it did. -/
def fracExactSpec : ChangeSpec := { name := "fracExact", fn := fun _ => fun
  | [d] => { results := [.lit (.bool true)], args := [d] }
  | _ => none }
def fracExactRow : OpenClaim := { program := "ytfielhbepnkekaa", sum := "404e4b1d3b6ac67d792a0e66c93d5a3cc2f00f3eb946feed048c114723ac8b51", func := "pianola/pianolalaw02.FracExact", spec := "fracExact", unfollowed := true, recurses := true, apart := false }
def FracExactSaid : Prop := fracExactRow.holds Try.pinned (OpenSpec.ofChange fracExactSpec)

/-- ITS FALSE NEIGHBOUR: 'it returns false'. Refute it at one input. -/
def fracExactWrong : ChangeSpec := { name := "fracExact", fn := fun _ => fun
  | [d] => { results := [.lit (.bool false)], args := [d] }
  | _ => none }
def FracExactWrongFalsely : Prop := fracExactRow.holds Try.pinned (OpenSpec.ofChange fracExactWrong)

/-- 'pianolalaw02.FracTurns': WHATEVER THE INPUT: true; the input reads as it did. -/
def fracTurnsSpec : ChangeSpec := { name := "fracTurns", fn := fun _ => fun
  | [d1, d2] => { results := [.lit (.bool true)], args := [d1, d2] }
  | _ => none }
def fracTurnsRow : OpenClaim := { program := "ytfielhbepnkekaa", sum := "404e4b1d3b6ac67d792a0e66c93d5a3cc2f00f3eb946feed048c114723ac8b51", func := "pianola/pianolalaw02.FracTurns", spec := "fracTurns", unfollowed := true, recurses := true, apart := false }
def FracTurnsSaid : Prop := fracTurnsRow.holds Try.pinned (OpenSpec.ofChange fracTurnsSpec)

/-- ITS FALSE NEIGHBOUR: 'it returns false'. Refute it at one input. -/
def fracTurnsWrong : ChangeSpec := { name := "fracTurns", fn := fun _ => fun
  | [d1, d2] => { results := [.lit (.bool false)], args := [d1, d2] }
  | _ => none }
def FracTurnsWrongFalsely : Prop := fracTurnsRow.holds Try.pinned (OpenSpec.ofChange fracTurnsWrong)

/-- 'pianolalaw02.FracOrders': WHATEVER THE INPUT: true; the input reads as it did. -/
def fracOrdersSpec : ChangeSpec := { name := "fracOrders", fn := fun _ => fun
  | [d1, d2, d3] => { results := [.lit (.bool true)], args := [d1, d2, d3] }
  | _ => none }
def fracOrdersRow : OpenClaim := { program := "ytfielhbepnkekaa", sum := "404e4b1d3b6ac67d792a0e66c93d5a3cc2f00f3eb946feed048c114723ac8b51", func := "pianola/pianolalaw02.FracOrders", spec := "fracOrders", unfollowed := true, recurses := true, apart := false }
def FracOrdersSaid : Prop := fracOrdersRow.holds Try.pinned (OpenSpec.ofChange fracOrdersSpec)

/-- ITS FALSE NEIGHBOUR: 'it returns false'. Refute it at one input. -/
def fracOrdersWrong : ChangeSpec := { name := "fracOrders", fn := fun _ => fun
  | [d1, d2, d3] => { results := [.lit (.bool false)], args := [d1, d2, d3] }
  | _ => none }
def FracOrdersWrongFalsely : Prop := fracOrdersRow.holds Try.pinned (OpenSpec.ofChange fracOrdersWrong)

/-- 'pianolalaw02.FracLeast': WHATEVER THE INPUT: true; the input reads as it did. -/
def fracLeastSpec : ChangeSpec := { name := "fracLeast", fn := fun _ => fun
  | [d1, d2] => { results := [.lit (.bool true)], args := [d1, d2] }
  | _ => none }
def fracLeastRow : OpenClaim := { program := "ytfielhbepnkekaa", sum := "404e4b1d3b6ac67d792a0e66c93d5a3cc2f00f3eb946feed048c114723ac8b51", func := "pianola/pianolalaw02.FracLeast", spec := "fracLeast", unfollowed := true, recurses := true, apart := false }
def FracLeastSaid : Prop := fracLeastRow.holds Try.pinned (OpenSpec.ofChange fracLeastSpec)

/-- ITS FALSE NEIGHBOUR: 'it returns false'. Refute it at one input. -/
def fracLeastWrong : ChangeSpec := { name := "fracLeast", fn := fun _ => fun
  | [d1, d2] => { results := [.lit (.bool false)], args := [d1, d2] }
  | _ => none }
def FracLeastWrongFalsely : Prop := fracLeastRow.holds Try.pinned (OpenSpec.ofChange fracLeastWrong)

/-- 'pianolalaw02.FracNames': WHATEVER THE INPUT: true; the input reads as it did. -/
def fracNamesSpec : ChangeSpec := { name := "fracNames", fn := fun _ => fun
  | [] => { results := [.lit (.bool true)], args := [] }
  | _ => none }
def fracNamesRow : OpenClaim := { program := "ytfielhbepnkekaa", sum := "404e4b1d3b6ac67d792a0e66c93d5a3cc2f00f3eb946feed048c114723ac8b51", func := "pianola/pianolalaw02.FracNames", spec := "fracNames", unfollowed := true, recurses := true, apart := false }
def FracNamesSaid : Prop := fracNamesRow.holds Try.pinned (OpenSpec.ofChange fracNamesSpec)

/-- ITS FALSE NEIGHBOUR: 'it returns false'. Refute it at one input. -/
def fracNamesWrong : ChangeSpec := { name := "fracNames", fn := fun _ => fun
  | [] => { results := [.lit (.bool false)], args := [] }
  | _ => none }
def FracNamesWrongFalsely : Prop := fracNamesRow.holds Try.pinned (OpenSpec.ofChange fracNamesWrong)

/- THE SECOND FORM. 'bulk': how many values and letters a reading holds, each counted each time it is reached (what is shared counts as often as it is met; a slice's spare places count too). A statement '..UptoSaid' is the law's where the arguments, and the package variables that the reading takes, are together of bulk at most 1048576: NARROWER than '..Said'. Prove '..Said' where nothing that the law and all that it calls make is longer than what came in: it says more and counts as full. Else prove '..UptoSaid'. A law counts once. -/
mutual
def uptoBulk {H : Type} : DataW H → Nat
  | .lit (.string bytes) => bytes.length + 1
  | .lit _ => 1
  | .nil => 1
  | .ptr d => uptoBulk d + 1
  | .slice elems spare => uptoBulkAll elems + uptoBulkAll spare + 1
  | .agg parts => uptoBulkAll parts + 1
  | .iface _ d => uptoBulk d + 1
  | .map entries => uptoBulkEntries entries + 1
  | .held _ => 1
def uptoBulkAll {H : Type} : List (DataW H) → Nat
  | [] => 0
  | d :: r => uptoBulk d + uptoBulkAll r
def uptoBulkEntries {H : Type} : List (Lit × DataW H) → Nat
  | [] => 0
  | x :: r => uptoBulkEntry x + uptoBulkEntries r
def uptoBulkEntry {H : Type} : Lit × DataW H → Nat
  | (.string bytes, d) => bytes.length + uptoBulk d + 1
  | (_, d) => uptoBulk d + 1
 end
def uptoSmall : (H : Type) → List (DataW H) → Bool := fun _ ds => decide (uptoBulkAll ds ≤ 1048576)
def OpenSpec.upto (s : _root_.Go.ChangeSpec) : _root_.Go.OpenSpec := { _root_.Go.OpenSpec.ofChange s with cond := some uptoSmall }

/-- 'pianolalaw02.FracNews', WHERE WHAT IT READS IS OF BULK AT MOST 1048576: true; the input reads as it did. -/
def fracNewsUptoRow : OpenClaim := { program := "ytfielhbepnkekaa", sum := "404e4b1d3b6ac67d792a0e66c93d5a3cc2f00f3eb946feed048c114723ac8b51", func := "pianola/pianolalaw02.FracNews", spec := "fracNews", unfollowed := true, recurses := true, apart := false, narrowed := true }
def FracNewsUptoSaid : Prop := fracNewsUptoRow.holds Try.pinned (OpenSpec.upto fracNewsSpec)

/-- 'pianolalaw02.FracMuls', WHERE WHAT IT READS IS OF BULK AT MOST 1048576: true; the input reads as it did. -/
def fracMulsUptoRow : OpenClaim := { program := "ytfielhbepnkekaa", sum := "404e4b1d3b6ac67d792a0e66c93d5a3cc2f00f3eb946feed048c114723ac8b51", func := "pianola/pianolalaw02.FracMuls", spec := "fracMuls", unfollowed := true, recurses := true, apart := false, narrowed := true }
def FracMulsUptoSaid : Prop := fracMulsUptoRow.holds Try.pinned (OpenSpec.upto fracMulsSpec)

/-- 'pianolalaw02.FracInvs', WHERE WHAT IT READS IS OF BULK AT MOST 1048576: true; the input reads as it did. -/
def fracInvsUptoRow : OpenClaim := { program := "ytfielhbepnkekaa", sum := "404e4b1d3b6ac67d792a0e66c93d5a3cc2f00f3eb946feed048c114723ac8b51", func := "pianola/pianolalaw02.FracInvs", spec := "fracInvs", unfollowed := true, recurses := true, apart := false, narrowed := true }
def FracInvsUptoSaid : Prop := fracInvsUptoRow.holds Try.pinned (OpenSpec.upto fracInvsSpec)

/-- 'pianolalaw02.FracCmps', WHERE WHAT IT READS IS OF BULK AT MOST 1048576: true; the input reads as it did. -/
def fracCmpsUptoRow : OpenClaim := { program := "ytfielhbepnkekaa", sum := "404e4b1d3b6ac67d792a0e66c93d5a3cc2f00f3eb946feed048c114723ac8b51", func := "pianola/pianolalaw02.FracCmps", spec := "fracCmps", unfollowed := true, recurses := true, apart := false, narrowed := true }
def FracCmpsUptoSaid : Prop := fracCmpsUptoRow.holds Try.pinned (OpenSpec.upto fracCmpsSpec)

/-- 'pianolalaw02.FracScales', WHERE WHAT IT READS IS OF BULK AT MOST 1048576: true; the input reads as it did. -/
def fracScalesUptoRow : OpenClaim := { program := "ytfielhbepnkekaa", sum := "404e4b1d3b6ac67d792a0e66c93d5a3cc2f00f3eb946feed048c114723ac8b51", func := "pianola/pianolalaw02.FracScales", spec := "fracScales", unfollowed := true, recurses := true, apart := false, narrowed := true }
def FracScalesUptoSaid : Prop := fracScalesUptoRow.holds Try.pinned (OpenSpec.upto fracScalesSpec)

/-- 'pianolalaw02.FracLowest', WHERE WHAT IT READS IS OF BULK AT MOST 1048576: true; the input reads as it did. -/
def fracLowestUptoRow : OpenClaim := { program := "ytfielhbepnkekaa", sum := "404e4b1d3b6ac67d792a0e66c93d5a3cc2f00f3eb946feed048c114723ac8b51", func := "pianola/pianolalaw02.FracLowest", spec := "fracLowest", unfollowed := true, recurses := true, apart := false, narrowed := true }
def FracLowestUptoSaid : Prop := fracLowestUptoRow.holds Try.pinned (OpenSpec.upto fracLowestSpec)

/-- 'pianolalaw02.FracWorth', WHERE WHAT IT READS IS OF BULK AT MOST 1048576: true; the input reads as it did. -/
def fracWorthUptoRow : OpenClaim := { program := "ytfielhbepnkekaa", sum := "404e4b1d3b6ac67d792a0e66c93d5a3cc2f00f3eb946feed048c114723ac8b51", func := "pianola/pianolalaw02.FracWorth", spec := "fracWorth", unfollowed := true, recurses := true, apart := false, narrowed := true }
def FracWorthUptoSaid : Prop := fracWorthUptoRow.holds Try.pinned (OpenSpec.upto fracWorthSpec)

/-- 'pianolalaw02.FracExact', WHERE WHAT IT READS IS OF BULK AT MOST 1048576: true; the input reads as it did. -/
def fracExactUptoRow : OpenClaim := { program := "ytfielhbepnkekaa", sum := "404e4b1d3b6ac67d792a0e66c93d5a3cc2f00f3eb946feed048c114723ac8b51", func := "pianola/pianolalaw02.FracExact", spec := "fracExact", unfollowed := true, recurses := true, apart := false, narrowed := true }
def FracExactUptoSaid : Prop := fracExactUptoRow.holds Try.pinned (OpenSpec.upto fracExactSpec)

/-- 'pianolalaw02.FracTurns', WHERE WHAT IT READS IS OF BULK AT MOST 1048576: true; the input reads as it did. -/
def fracTurnsUptoRow : OpenClaim := { program := "ytfielhbepnkekaa", sum := "404e4b1d3b6ac67d792a0e66c93d5a3cc2f00f3eb946feed048c114723ac8b51", func := "pianola/pianolalaw02.FracTurns", spec := "fracTurns", unfollowed := true, recurses := true, apart := false, narrowed := true }
def FracTurnsUptoSaid : Prop := fracTurnsUptoRow.holds Try.pinned (OpenSpec.upto fracTurnsSpec)

/-- 'pianolalaw02.FracOrders', WHERE WHAT IT READS IS OF BULK AT MOST 1048576: true; the input reads as it did. -/
def fracOrdersUptoRow : OpenClaim := { program := "ytfielhbepnkekaa", sum := "404e4b1d3b6ac67d792a0e66c93d5a3cc2f00f3eb946feed048c114723ac8b51", func := "pianola/pianolalaw02.FracOrders", spec := "fracOrders", unfollowed := true, recurses := true, apart := false, narrowed := true }
def FracOrdersUptoSaid : Prop := fracOrdersUptoRow.holds Try.pinned (OpenSpec.upto fracOrdersSpec)

/-- 'pianolalaw02.FracLeast', WHERE WHAT IT READS IS OF BULK AT MOST 1048576: true; the input reads as it did. -/
def fracLeastUptoRow : OpenClaim := { program := "ytfielhbepnkekaa", sum := "404e4b1d3b6ac67d792a0e66c93d5a3cc2f00f3eb946feed048c114723ac8b51", func := "pianola/pianolalaw02.FracLeast", spec := "fracLeast", unfollowed := true, recurses := true, apart := false, narrowed := true }
def FracLeastUptoSaid : Prop := fracLeastUptoRow.holds Try.pinned (OpenSpec.upto fracLeastSpec)

/-- 'pianolalaw02.FracNames', WHERE WHAT IT READS IS OF BULK AT MOST 1048576: true; the input reads as it did. -/
def fracNamesUptoRow : OpenClaim := { program := "ytfielhbepnkekaa", sum := "404e4b1d3b6ac67d792a0e66c93d5a3cc2f00f3eb946feed048c114723ac8b51", func := "pianola/pianolalaw02.FracNames", spec := "fracNames", unfollowed := true, recurses := true, apart := false, narrowed := true }
def FracNamesUptoSaid : Prop := fracNamesUptoRow.holds Try.pinned (OpenSpec.upto fracNamesSpec)

end Rows
end Go.Proofs.Ytfielhbepnkekaa
