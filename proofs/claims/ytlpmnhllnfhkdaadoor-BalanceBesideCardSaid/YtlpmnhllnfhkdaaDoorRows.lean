/-
  NARROWER THAN 'FOR EVERY INPUT', by the rows' own cells (each row's printed sentence says how): BalanceSolves: laid · BalanceOne: laid · BalanceStarts: laid · BalanceTurned: laid · BalanceBeside: laid · BalanceHolds: laid · BalanceLeast: laid · BalanceUnlike: laid.
  DERIVED. THE GIVEN ROWS OF THIS SEAT. 8 by the template 'for every input the law returns true; each argument reads behind the call as it read before'; 0 by the template 'total and deterministic' (their statements: YtlpmnhllnfhkdaaDoorTotals.lean).
  GIVEN WITH THE SEED: the statements are not yours to turn. If you find one false, say at which input.
  Laid BY PROGRAM, IN A SANDBOX (cutbox-rows.mjs): the forced cells as the released guide's own fill.sh prints them over the translation 6b800382a3d3cdfb… (all of the seat's roots in one cut). By AI agents, Wed Nov 11 2026. No macro, syntax, notation, axiom, sorry.
-/
import Derived.Test.YtlpmnhllnfhkdaaDoorChecked
import GoSem.Claim
import GoSem.ClaimJoined
import GoSem.ClaimMapViews
import Derived.JoinedTies
import Derived.KernelRfl
namespace Go.Proofs.YtlpmnhllnfhkdaaDoor
/- THE CELL 'sum', in the pinned program and in every row, IS THE sha256 OF THE DUMP (.gsa) THAT YtlpmnhllnfhkdaaDoorProg.lean LOADS. Nothing in Lean hashes anything: it is a label: what it is worth is what the hold of that sum in a sandbox is worth. -/
noncomputable def Tryd.pinned : Pinned := { name := "ytlpmnhllnfhkdaadoor", sum := "6b800382a3d3cdfb83a7dd26d6f9fe9b59937004f91112f4d96347f2867b7824", checked := Tryd.checked }
namespace Rows
def none {H : Type} : Left H := { results := [], args := [] }

/- WHAT THE LISTED PACKAGE-LEVEL VARIABLES READ AS WHEN THE CALL BEGINS. Each datum BY PROGRAM (the guide's laid-datum.mjs) off the statement by which the dump's own 'gosem.cut.vars' lays the variable. In a bare row this is a premise. The card (YtlpmnhllnfhkdaaDoorCards.lean) ties it to the program's text. -/
def laid_math_bits_deBruijn64tab {H : Type} : DataW H := .agg [.lit (.int .u8 0), .lit (.int .u8 1), .lit (.int .u8 56), .lit (.int .u8 2), .lit (.int .u8 57), .lit (.int .u8 49), .lit (.int .u8 28), .lit (.int .u8 3), .lit (.int .u8 61), .lit (.int .u8 58), .lit (.int .u8 42), .lit (.int .u8 50), .lit (.int .u8 38), .lit (.int .u8 29), .lit (.int .u8 17), .lit (.int .u8 4), .lit (.int .u8 62), .lit (.int .u8 47), .lit (.int .u8 59), .lit (.int .u8 36), .lit (.int .u8 45), .lit (.int .u8 43), .lit (.int .u8 51), .lit (.int .u8 22), .lit (.int .u8 53), .lit (.int .u8 39), .lit (.int .u8 33), .lit (.int .u8 30), .lit (.int .u8 24), .lit (.int .u8 18), .lit (.int .u8 12), .lit (.int .u8 5), .lit (.int .u8 63), .lit (.int .u8 55), .lit (.int .u8 48), .lit (.int .u8 27), .lit (.int .u8 60), .lit (.int .u8 41), .lit (.int .u8 37), .lit (.int .u8 16), .lit (.int .u8 46), .lit (.int .u8 35), .lit (.int .u8 44), .lit (.int .u8 21), .lit (.int .u8 52), .lit (.int .u8 32), .lit (.int .u8 23), .lit (.int .u8 11), .lit (.int .u8 54), .lit (.int .u8 26), .lit (.int .u8 40), .lit (.int .u8 15), .lit (.int .u8 34), .lit (.int .u8 20), .lit (.int .u8 31), .lit (.int .u8 10), .lit (.int .u8 25), .lit (.int .u8 14), .lit (.int .u8 19), .lit (.int .u8 9), .lit (.int .u8 13), .lit (.int .u8 8), .lit (.int .u8 7), .lit (.int .u8 6)]

/-- 'pianolalaw13.BalanceSolves': WHATEVER THE INPUT: true; the input reads as it did. -/
def balanceSolvesSpec : ChangeSpec := { name := "balanceSolves", fn := fun _ => fun
  | [d] => { results := [.lit (.bool true)], args := [d] }
  | _ => none }
def balanceSolvesRow : OpenClaim := { program := "ytlpmnhllnfhkdaadoor", sum := "6b800382a3d3cdfb83a7dd26d6f9fe9b59937004f91112f4d96347f2867b7824", func := "pianola/pianolalaw13.BalanceSolves", spec := "balanceSolves", unfollowed := true, recurses := true, named := ["math/bits.deBruijn64tab"], apart := false, laid := [("math/bits.deBruijn64tab", laid_math_bits_deBruijn64tab)] }
def BalanceSolvesSaid : Prop := balanceSolvesRow.holds Tryd.pinned (OpenSpec.ofChange balanceSolvesSpec)

/-- ITS FALSE NEIGHBOUR: 'it returns false'. Refute it at one input. -/
def balanceSolvesWrong : ChangeSpec := { name := "balanceSolves", fn := fun _ => fun
  | [d] => { results := [.lit (.bool false)], args := [d] }
  | _ => none }
def BalanceSolvesWrongFalsely : Prop := balanceSolvesRow.holds Tryd.pinned (OpenSpec.ofChange balanceSolvesWrong)

/-- 'pianolalaw13.BalanceOne': WHATEVER THE INPUT: true; the input reads as it did. -/
def balanceOneSpec : ChangeSpec := { name := "balanceOne", fn := fun _ => fun
  | [d] => { results := [.lit (.bool true)], args := [d] }
  | _ => none }
def balanceOneRow : OpenClaim := { program := "ytlpmnhllnfhkdaadoor", sum := "6b800382a3d3cdfb83a7dd26d6f9fe9b59937004f91112f4d96347f2867b7824", func := "pianola/pianolalaw13.BalanceOne", spec := "balanceOne", unfollowed := true, recurses := true, named := ["math/bits.deBruijn64tab"], apart := false, laid := [("math/bits.deBruijn64tab", laid_math_bits_deBruijn64tab)] }
def BalanceOneSaid : Prop := balanceOneRow.holds Tryd.pinned (OpenSpec.ofChange balanceOneSpec)

/-- ITS FALSE NEIGHBOUR: 'it returns false'. Refute it at one input. -/
def balanceOneWrong : ChangeSpec := { name := "balanceOne", fn := fun _ => fun
  | [d] => { results := [.lit (.bool false)], args := [d] }
  | _ => none }
def BalanceOneWrongFalsely : Prop := balanceOneRow.holds Tryd.pinned (OpenSpec.ofChange balanceOneWrong)

/-- 'pianolalaw13.BalanceStarts': WHATEVER THE INPUT: true; the input reads as it did. -/
def balanceStartsSpec : ChangeSpec := { name := "balanceStarts", fn := fun _ => fun
  | [d1, d2] => { results := [.lit (.bool true)], args := [d1, d2] }
  | _ => none }
def balanceStartsRow : OpenClaim := { program := "ytlpmnhllnfhkdaadoor", sum := "6b800382a3d3cdfb83a7dd26d6f9fe9b59937004f91112f4d96347f2867b7824", func := "pianola/pianolalaw13.BalanceStarts", spec := "balanceStarts", unfollowed := true, recurses := true, named := ["math/bits.deBruijn64tab"], apart := false, laid := [("math/bits.deBruijn64tab", laid_math_bits_deBruijn64tab)] }
def BalanceStartsSaid : Prop := balanceStartsRow.holds Tryd.pinned (OpenSpec.ofChange balanceStartsSpec)

/-- ITS FALSE NEIGHBOUR: 'it returns false'. Refute it at one input. -/
def balanceStartsWrong : ChangeSpec := { name := "balanceStarts", fn := fun _ => fun
  | [d1, d2] => { results := [.lit (.bool false)], args := [d1, d2] }
  | _ => none }
def BalanceStartsWrongFalsely : Prop := balanceStartsRow.holds Tryd.pinned (OpenSpec.ofChange balanceStartsWrong)

/-- 'pianolalaw13.BalanceTurned': WHATEVER THE INPUT: true; the input reads as it did. -/
def balanceTurnedSpec : ChangeSpec := { name := "balanceTurned", fn := fun _ => fun
  | [d] => { results := [.lit (.bool true)], args := [d] }
  | _ => none }
def balanceTurnedRow : OpenClaim := { program := "ytlpmnhllnfhkdaadoor", sum := "6b800382a3d3cdfb83a7dd26d6f9fe9b59937004f91112f4d96347f2867b7824", func := "pianola/pianolalaw13.BalanceTurned", spec := "balanceTurned", unfollowed := true, recurses := true, named := ["math/bits.deBruijn64tab"], apart := false, laid := [("math/bits.deBruijn64tab", laid_math_bits_deBruijn64tab)] }
def BalanceTurnedSaid : Prop := balanceTurnedRow.holds Tryd.pinned (OpenSpec.ofChange balanceTurnedSpec)

/-- ITS FALSE NEIGHBOUR: 'it returns false'. Refute it at one input. -/
def balanceTurnedWrong : ChangeSpec := { name := "balanceTurned", fn := fun _ => fun
  | [d] => { results := [.lit (.bool false)], args := [d] }
  | _ => none }
def BalanceTurnedWrongFalsely : Prop := balanceTurnedRow.holds Tryd.pinned (OpenSpec.ofChange balanceTurnedWrong)

/-- 'pianolalaw13.BalanceBeside': WHATEVER THE INPUT: true; the input reads as it did. -/
def balanceBesideSpec : ChangeSpec := { name := "balanceBeside", fn := fun _ => fun
  | [d1, d2] => { results := [.lit (.bool true)], args := [d1, d2] }
  | _ => none }
def balanceBesideRow : OpenClaim := { program := "ytlpmnhllnfhkdaadoor", sum := "6b800382a3d3cdfb83a7dd26d6f9fe9b59937004f91112f4d96347f2867b7824", func := "pianola/pianolalaw13.BalanceBeside", spec := "balanceBeside", unfollowed := true, recurses := true, named := ["math/bits.deBruijn64tab"], apart := false, laid := [("math/bits.deBruijn64tab", laid_math_bits_deBruijn64tab)] }
def BalanceBesideSaid : Prop := balanceBesideRow.holds Tryd.pinned (OpenSpec.ofChange balanceBesideSpec)

/-- ITS FALSE NEIGHBOUR: 'it returns false'. Refute it at one input. -/
def balanceBesideWrong : ChangeSpec := { name := "balanceBeside", fn := fun _ => fun
  | [d1, d2] => { results := [.lit (.bool false)], args := [d1, d2] }
  | _ => none }
def BalanceBesideWrongFalsely : Prop := balanceBesideRow.holds Tryd.pinned (OpenSpec.ofChange balanceBesideWrong)

/-- 'pianolalaw13.BalanceHolds': WHATEVER THE INPUT: true; the input reads as it did. -/
def balanceHoldsSpec : ChangeSpec := { name := "balanceHolds", fn := fun _ => fun
  | [d1, d2] => { results := [.lit (.bool true)], args := [d1, d2] }
  | _ => none }
def balanceHoldsRow : OpenClaim := { program := "ytlpmnhllnfhkdaadoor", sum := "6b800382a3d3cdfb83a7dd26d6f9fe9b59937004f91112f4d96347f2867b7824", func := "pianola/pianolalaw13.BalanceHolds", spec := "balanceHolds", unfollowed := true, recurses := true, named := ["math/bits.deBruijn64tab"], apart := false, laid := [("math/bits.deBruijn64tab", laid_math_bits_deBruijn64tab)] }
def BalanceHoldsSaid : Prop := balanceHoldsRow.holds Tryd.pinned (OpenSpec.ofChange balanceHoldsSpec)

/-- ITS FALSE NEIGHBOUR: 'it returns false'. Refute it at one input. -/
def balanceHoldsWrong : ChangeSpec := { name := "balanceHolds", fn := fun _ => fun
  | [d1, d2] => { results := [.lit (.bool false)], args := [d1, d2] }
  | _ => none }
def BalanceHoldsWrongFalsely : Prop := balanceHoldsRow.holds Tryd.pinned (OpenSpec.ofChange balanceHoldsWrong)

/-- 'pianolalaw13.BalanceLeast': WHATEVER THE INPUT: true; the input reads as it did. -/
def balanceLeastSpec : ChangeSpec := { name := "balanceLeast", fn := fun _ => fun
  | [d1, d2] => { results := [.lit (.bool true)], args := [d1, d2] }
  | _ => none }
def balanceLeastRow : OpenClaim := { program := "ytlpmnhllnfhkdaadoor", sum := "6b800382a3d3cdfb83a7dd26d6f9fe9b59937004f91112f4d96347f2867b7824", func := "pianola/pianolalaw13.BalanceLeast", spec := "balanceLeast", unfollowed := true, recurses := true, named := ["math/bits.deBruijn64tab"], apart := false, laid := [("math/bits.deBruijn64tab", laid_math_bits_deBruijn64tab)] }
def BalanceLeastSaid : Prop := balanceLeastRow.holds Tryd.pinned (OpenSpec.ofChange balanceLeastSpec)

/-- ITS FALSE NEIGHBOUR: 'it returns false'. Refute it at one input. -/
def balanceLeastWrong : ChangeSpec := { name := "balanceLeast", fn := fun _ => fun
  | [d1, d2] => { results := [.lit (.bool false)], args := [d1, d2] }
  | _ => none }
def BalanceLeastWrongFalsely : Prop := balanceLeastRow.holds Tryd.pinned (OpenSpec.ofChange balanceLeastWrong)

/-- 'pianolalaw13.BalanceUnlike': WHATEVER THE INPUT: true; the input reads as it did. -/
def balanceUnlikeSpec : ChangeSpec := { name := "balanceUnlike", fn := fun _ => fun
  | [d1, d2] => { results := [.lit (.bool true)], args := [d1, d2] }
  | _ => none }
def balanceUnlikeRow : OpenClaim := { program := "ytlpmnhllnfhkdaadoor", sum := "6b800382a3d3cdfb83a7dd26d6f9fe9b59937004f91112f4d96347f2867b7824", func := "pianola/pianolalaw13.BalanceUnlike", spec := "balanceUnlike", unfollowed := true, recurses := true, named := ["math/bits.deBruijn64tab"], apart := false, laid := [("math/bits.deBruijn64tab", laid_math_bits_deBruijn64tab)] }
def BalanceUnlikeSaid : Prop := balanceUnlikeRow.holds Tryd.pinned (OpenSpec.ofChange balanceUnlikeSpec)

/-- ITS FALSE NEIGHBOUR: 'it returns false'. Refute it at one input. -/
def balanceUnlikeWrong : ChangeSpec := { name := "balanceUnlike", fn := fun _ => fun
  | [d1, d2] => { results := [.lit (.bool false)], args := [d1, d2] }
  | _ => none }
def BalanceUnlikeWrongFalsely : Prop := balanceUnlikeRow.holds Tryd.pinned (OpenSpec.ofChange balanceUnlikeWrong)

/- THE SECOND FORM. 'bulk': how many values and letters a reading holds, each counted each time it is reached (what is shared counts as often as it is met; a slice's spare places count too). A statement '..UptoSaid' is the law's where the arguments, and the package variables that the reading takes, are together of bulk at most 1048576: NARROWER than '..Said'. Prove '..Said' where nothing that the law and all that it calls make is longer than what came in: it says more and counts as full. Else prove '..UptoSaid'. A law counts once. -/
mutual
def uptoBulk {H : Type} : DataW H → Nat
  | .lit (.string bytes) => bytes.length + 1
  | .lit _ => 1
  | .nil => 1
  | .ptr d => uptoBulk d + 1
  | .slice elems spare => uptoBulkAll elems + uptoBulkAll spare + 1
  | .agg parts => uptoBulkAll parts + 1
  | .iface _ d => uptoBulk d + 1
  | .map entries => uptoBulkEntries entries + 1
  | .held _ => 1
def uptoBulkAll {H : Type} : List (DataW H) → Nat
  | [] => 0
  | d :: r => uptoBulk d + uptoBulkAll r
def uptoBulkEntries {H : Type} : List (Lit × DataW H) → Nat
  | [] => 0
  | x :: r => uptoBulkEntry x + uptoBulkEntries r
def uptoBulkEntry {H : Type} : Lit × DataW H → Nat
  | (.string bytes, d) => bytes.length + uptoBulk d + 1
  | (_, d) => uptoBulk d + 1
 end
def uptoSmall : (H : Type) → List (DataW H) → Bool := fun _ ds => decide (uptoBulkAll ds ≤ 1048576)
def OpenSpec.upto (s : _root_.Go.ChangeSpec) : _root_.Go.OpenSpec := { _root_.Go.OpenSpec.ofChange s with cond := some uptoSmall }

/-- 'pianolalaw13.BalanceSolves', WHERE WHAT IT READS IS OF BULK AT MOST 1048576: true; the input reads as it did. -/
def balanceSolvesUptoRow : OpenClaim := { program := "ytlpmnhllnfhkdaadoor", sum := "6b800382a3d3cdfb83a7dd26d6f9fe9b59937004f91112f4d96347f2867b7824", func := "pianola/pianolalaw13.BalanceSolves", spec := "balanceSolves", unfollowed := true, recurses := true, named := ["math/bits.deBruijn64tab"], apart := false, laid := [("math/bits.deBruijn64tab", laid_math_bits_deBruijn64tab)], narrowed := true }
def BalanceSolvesUptoSaid : Prop := balanceSolvesUptoRow.holds Tryd.pinned (OpenSpec.upto balanceSolvesSpec)

/-- 'pianolalaw13.BalanceOne', WHERE WHAT IT READS IS OF BULK AT MOST 1048576: true; the input reads as it did. -/
def balanceOneUptoRow : OpenClaim := { program := "ytlpmnhllnfhkdaadoor", sum := "6b800382a3d3cdfb83a7dd26d6f9fe9b59937004f91112f4d96347f2867b7824", func := "pianola/pianolalaw13.BalanceOne", spec := "balanceOne", unfollowed := true, recurses := true, named := ["math/bits.deBruijn64tab"], apart := false, laid := [("math/bits.deBruijn64tab", laid_math_bits_deBruijn64tab)], narrowed := true }
def BalanceOneUptoSaid : Prop := balanceOneUptoRow.holds Tryd.pinned (OpenSpec.upto balanceOneSpec)

/-- 'pianolalaw13.BalanceStarts', WHERE WHAT IT READS IS OF BULK AT MOST 1048576: true; the input reads as it did. -/
def balanceStartsUptoRow : OpenClaim := { program := "ytlpmnhllnfhkdaadoor", sum := "6b800382a3d3cdfb83a7dd26d6f9fe9b59937004f91112f4d96347f2867b7824", func := "pianola/pianolalaw13.BalanceStarts", spec := "balanceStarts", unfollowed := true, recurses := true, named := ["math/bits.deBruijn64tab"], apart := false, laid := [("math/bits.deBruijn64tab", laid_math_bits_deBruijn64tab)], narrowed := true }
def BalanceStartsUptoSaid : Prop := balanceStartsUptoRow.holds Tryd.pinned (OpenSpec.upto balanceStartsSpec)

/-- 'pianolalaw13.BalanceTurned', WHERE WHAT IT READS IS OF BULK AT MOST 1048576: true; the input reads as it did. -/
def balanceTurnedUptoRow : OpenClaim := { program := "ytlpmnhllnfhkdaadoor", sum := "6b800382a3d3cdfb83a7dd26d6f9fe9b59937004f91112f4d96347f2867b7824", func := "pianola/pianolalaw13.BalanceTurned", spec := "balanceTurned", unfollowed := true, recurses := true, named := ["math/bits.deBruijn64tab"], apart := false, laid := [("math/bits.deBruijn64tab", laid_math_bits_deBruijn64tab)], narrowed := true }
def BalanceTurnedUptoSaid : Prop := balanceTurnedUptoRow.holds Tryd.pinned (OpenSpec.upto balanceTurnedSpec)

/-- 'pianolalaw13.BalanceBeside', WHERE WHAT IT READS IS OF BULK AT MOST 1048576: true; the input reads as it did. -/
def balanceBesideUptoRow : OpenClaim := { program := "ytlpmnhllnfhkdaadoor", sum := "6b800382a3d3cdfb83a7dd26d6f9fe9b59937004f91112f4d96347f2867b7824", func := "pianola/pianolalaw13.BalanceBeside", spec := "balanceBeside", unfollowed := true, recurses := true, named := ["math/bits.deBruijn64tab"], apart := false, laid := [("math/bits.deBruijn64tab", laid_math_bits_deBruijn64tab)], narrowed := true }
def BalanceBesideUptoSaid : Prop := balanceBesideUptoRow.holds Tryd.pinned (OpenSpec.upto balanceBesideSpec)

/-- 'pianolalaw13.BalanceHolds', WHERE WHAT IT READS IS OF BULK AT MOST 1048576: true; the input reads as it did. -/
def balanceHoldsUptoRow : OpenClaim := { program := "ytlpmnhllnfhkdaadoor", sum := "6b800382a3d3cdfb83a7dd26d6f9fe9b59937004f91112f4d96347f2867b7824", func := "pianola/pianolalaw13.BalanceHolds", spec := "balanceHolds", unfollowed := true, recurses := true, named := ["math/bits.deBruijn64tab"], apart := false, laid := [("math/bits.deBruijn64tab", laid_math_bits_deBruijn64tab)], narrowed := true }
def BalanceHoldsUptoSaid : Prop := balanceHoldsUptoRow.holds Tryd.pinned (OpenSpec.upto balanceHoldsSpec)

/-- 'pianolalaw13.BalanceLeast', WHERE WHAT IT READS IS OF BULK AT MOST 1048576: true; the input reads as it did. -/
def balanceLeastUptoRow : OpenClaim := { program := "ytlpmnhllnfhkdaadoor", sum := "6b800382a3d3cdfb83a7dd26d6f9fe9b59937004f91112f4d96347f2867b7824", func := "pianola/pianolalaw13.BalanceLeast", spec := "balanceLeast", unfollowed := true, recurses := true, named := ["math/bits.deBruijn64tab"], apart := false, laid := [("math/bits.deBruijn64tab", laid_math_bits_deBruijn64tab)], narrowed := true }
def BalanceLeastUptoSaid : Prop := balanceLeastUptoRow.holds Tryd.pinned (OpenSpec.upto balanceLeastSpec)

/-- 'pianolalaw13.BalanceUnlike', WHERE WHAT IT READS IS OF BULK AT MOST 1048576: true; the input reads as it did. -/
def balanceUnlikeUptoRow : OpenClaim := { program := "ytlpmnhllnfhkdaadoor", sum := "6b800382a3d3cdfb83a7dd26d6f9fe9b59937004f91112f4d96347f2867b7824", func := "pianola/pianolalaw13.BalanceUnlike", spec := "balanceUnlike", unfollowed := true, recurses := true, named := ["math/bits.deBruijn64tab"], apart := false, laid := [("math/bits.deBruijn64tab", laid_math_bits_deBruijn64tab)], narrowed := true }
def BalanceUnlikeUptoSaid : Prop := balanceUnlikeUptoRow.holds Tryd.pinned (OpenSpec.upto balanceUnlikeSpec)

end Rows
end Go.Proofs.YtlpmnhllnfhkdaaDoor
