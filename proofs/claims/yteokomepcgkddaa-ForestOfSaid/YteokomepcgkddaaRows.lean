/-
  No cell of these rows narrows 'for every input' (looked for: loops, veiled, ifaces, maps, wideKeys, modest, calm, conditions, laid).
  DERIVED. THE GIVEN ROWS OF THIS SEAT. 6 by the template 'for every input the law returns true; each argument reads behind the call as it read before'; 0 by the template 'total and deterministic' (their statements: YteokomepcgkddaaTotals.lean).
  GIVEN WITH THE SEED: the statements are not yours to turn. If you find one false, say at which input.
  Laid BY PROGRAM, IN A SANDBOX (cutbox-rows.mjs): the forced cells as the released guide's own fill.sh prints them over the translation 3a8aba530a7b6b27… (all of the seat's roots in one cut). By AI agents, Wed Nov 11 2026. No macro, syntax, notation, axiom, sorry.
-/
import Derived.Test.YteokomepcgkddaaChecked
import GoSem.Claim
import GoSem.ClaimJoined
import GoSem.ClaimMapViews
import Derived.JoinedTies
import Derived.KernelRfl
namespace Go.Proofs.Yteokomepcgkddaa
/- THE CELL 'sum', in the pinned program and in every row, IS THE sha256 OF THE DUMP (.gsa) THAT YteokomepcgkddaaProg.lean LOADS. Nothing in Lean hashes anything: it is a label: what it is worth is what the hold of that sum in a sandbox is worth. -/
noncomputable def Try.pinned : Pinned := { name := "yteokomepcgkddaa", sum := "3a8aba530a7b6b279b659ccc90bd777df73231f49ead2a4baeb3cd50a76fe988", checked := Try.checked }
namespace Rows
def none {H : Type} : Left H := { results := [], args := [] }

/-- 'pianolalaw11.ForestOf': WHATEVER THE INPUT: true; the input reads as it did. -/
def forestOfSpec : ChangeSpec := { name := "forestOf", fn := fun _ => fun
  | [d] => { results := [.lit (.bool true)], args := [d] }
  | _ => none }
def forestOfRow : OpenClaim := { program := "yteokomepcgkddaa", sum := "3a8aba530a7b6b279b659ccc90bd777df73231f49ead2a4baeb3cd50a76fe988", func := "pianola/pianolalaw11.ForestOf", spec := "forestOf", unfollowed := true, recurses := true, apart := false }
def ForestOfSaid : Prop := forestOfRow.holds Try.pinned (OpenSpec.ofChange forestOfSpec)

/-- ITS FALSE NEIGHBOUR: 'it returns false'. Refute it at one input. -/
def forestOfWrong : ChangeSpec := { name := "forestOf", fn := fun _ => fun
  | [d] => { results := [.lit (.bool false)], args := [d] }
  | _ => none }
def ForestOfWrongFalsely : Prop := forestOfRow.holds Try.pinned (OpenSpec.ofChange forestOfWrong)

/-- 'pianolalaw11.ForestPath': WHATEVER THE INPUT: true; the input reads as it did. -/
def forestPathSpec : ChangeSpec := { name := "forestPath", fn := fun _ => fun
  | [d1, d2, d3] => { results := [.lit (.bool true)], args := [d1, d2, d3] }
  | _ => none }
def forestPathRow : OpenClaim := { program := "yteokomepcgkddaa", sum := "3a8aba530a7b6b279b659ccc90bd777df73231f49ead2a4baeb3cd50a76fe988", func := "pianola/pianolalaw11.ForestPath", spec := "forestPath", unfollowed := true, recurses := true, apart := false }
def ForestPathSaid : Prop := forestPathRow.holds Try.pinned (OpenSpec.ofChange forestPathSpec)

/-- ITS FALSE NEIGHBOUR: 'it returns false'. Refute it at one input. -/
def forestPathWrong : ChangeSpec := { name := "forestPath", fn := fun _ => fun
  | [d1, d2, d3] => { results := [.lit (.bool false)], args := [d1, d2, d3] }
  | _ => none }
def ForestPathWrongFalsely : Prop := forestPathRow.holds Try.pinned (OpenSpec.ofChange forestPathWrong)

/-- 'pianolalaw11.ForestSpans': WHATEVER THE INPUT: true; the input reads as it did. -/
def forestSpansSpec : ChangeSpec := { name := "forestSpans", fn := fun _ => fun
  | [d] => { results := [.lit (.bool true)], args := [d] }
  | _ => none }
def forestSpansRow : OpenClaim := { program := "yteokomepcgkddaa", sum := "3a8aba530a7b6b279b659ccc90bd777df73231f49ead2a4baeb3cd50a76fe988", func := "pianola/pianolalaw11.ForestSpans", spec := "forestSpans", unfollowed := true, recurses := true, apart := false }
def ForestSpansSaid : Prop := forestSpansRow.holds Try.pinned (OpenSpec.ofChange forestSpansSpec)

/-- ITS FALSE NEIGHBOUR: 'it returns false'. Refute it at one input. -/
def forestSpansWrong : ChangeSpec := { name := "forestSpans", fn := fun _ => fun
  | [d] => { results := [.lit (.bool false)], args := [d] }
  | _ => none }
def ForestSpansWrongFalsely : Prop := forestSpansRow.holds Try.pinned (OpenSpec.ofChange forestSpansWrong)

/-- 'pianolalaw11.ForestWalks': WHATEVER THE INPUT: true; the input reads as it did. -/
def forestWalksSpec : ChangeSpec := { name := "forestWalks", fn := fun _ => fun
  | [d1, d2, d3] => { results := [.lit (.bool true)], args := [d1, d2, d3] }
  | _ => none }
def forestWalksRow : OpenClaim := { program := "yteokomepcgkddaa", sum := "3a8aba530a7b6b279b659ccc90bd777df73231f49ead2a4baeb3cd50a76fe988", func := "pianola/pianolalaw11.ForestWalks", spec := "forestWalks", unfollowed := true, recurses := true, apart := false }
def ForestWalksSaid : Prop := forestWalksRow.holds Try.pinned (OpenSpec.ofChange forestWalksSpec)

/-- ITS FALSE NEIGHBOUR: 'it returns false'. Refute it at one input. -/
def forestWalksWrong : ChangeSpec := { name := "forestWalks", fn := fun _ => fun
  | [d1, d2, d3] => { results := [.lit (.bool false)], args := [d1, d2, d3] }
  | _ => none }
def ForestWalksWrongFalsely : Prop := forestWalksRow.holds Try.pinned (OpenSpec.ofChange forestWalksWrong)

/-- 'pianolalaw11.ForestTurned': WHATEVER THE INPUT: true; the input reads as it did. -/
def forestTurnedSpec : ChangeSpec := { name := "forestTurned", fn := fun _ => fun
  | [d1, d2, d3] => { results := [.lit (.bool true)], args := [d1, d2, d3] }
  | _ => none }
def forestTurnedRow : OpenClaim := { program := "yteokomepcgkddaa", sum := "3a8aba530a7b6b279b659ccc90bd777df73231f49ead2a4baeb3cd50a76fe988", func := "pianola/pianolalaw11.ForestTurned", spec := "forestTurned", unfollowed := true, recurses := true, apart := false }
def ForestTurnedSaid : Prop := forestTurnedRow.holds Try.pinned (OpenSpec.ofChange forestTurnedSpec)

/-- ITS FALSE NEIGHBOUR: 'it returns false'. Refute it at one input. -/
def forestTurnedWrong : ChangeSpec := { name := "forestTurned", fn := fun _ => fun
  | [d1, d2, d3] => { results := [.lit (.bool false)], args := [d1, d2, d3] }
  | _ => none }
def ForestTurnedWrongFalsely : Prop := forestTurnedRow.holds Try.pinned (OpenSpec.ofChange forestTurnedWrong)

/-- 'pianolalaw11.ForestHeads': WHATEVER THE INPUT: true; the input reads as it did. -/
def forestHeadsSpec : ChangeSpec := { name := "forestHeads", fn := fun _ => fun
  | [d1, d2] => { results := [.lit (.bool true)], args := [d1, d2] }
  | _ => none }
def forestHeadsRow : OpenClaim := { program := "yteokomepcgkddaa", sum := "3a8aba530a7b6b279b659ccc90bd777df73231f49ead2a4baeb3cd50a76fe988", func := "pianola/pianolalaw11.ForestHeads", spec := "forestHeads", unfollowed := true, recurses := true, apart := false }
def ForestHeadsSaid : Prop := forestHeadsRow.holds Try.pinned (OpenSpec.ofChange forestHeadsSpec)

/-- ITS FALSE NEIGHBOUR: 'it returns false'. Refute it at one input. -/
def forestHeadsWrong : ChangeSpec := { name := "forestHeads", fn := fun _ => fun
  | [d1, d2] => { results := [.lit (.bool false)], args := [d1, d2] }
  | _ => none }
def ForestHeadsWrongFalsely : Prop := forestHeadsRow.holds Try.pinned (OpenSpec.ofChange forestHeadsWrong)

/- THE SECOND FORM. 'bulk': how many values and letters a reading holds, each counted each time it is reached (what is shared counts as often as it is met; a slice's spare places count too). A statement '..UptoSaid' is the law's where the arguments, and the package variables that the reading takes, are together of bulk at most 1048576: NARROWER than '..Said'. Prove '..Said' where nothing that the law and all that it calls make is longer than what came in: it says more and counts as full. Else prove '..UptoSaid'. A law counts once. -/
mutual
def uptoBulk {H : Type} : DataW H → Nat
  | .lit (.string bytes) => bytes.length + 1
  | .lit _ => 1
  | .nil => 1
  | .ptr d => uptoBulk d + 1
  | .slice elems spare => uptoBulkAll elems + uptoBulkAll spare + 1
  | .agg parts => uptoBulkAll parts + 1
  | .iface _ d => uptoBulk d + 1
  | .map entries => uptoBulkEntries entries + 1
  | .held _ => 1
def uptoBulkAll {H : Type} : List (DataW H) → Nat
  | [] => 0
  | d :: r => uptoBulk d + uptoBulkAll r
def uptoBulkEntries {H : Type} : List (Lit × DataW H) → Nat
  | [] => 0
  | x :: r => uptoBulkEntry x + uptoBulkEntries r
def uptoBulkEntry {H : Type} : Lit × DataW H → Nat
  | (.string bytes, d) => bytes.length + uptoBulk d + 1
  | (_, d) => uptoBulk d + 1
 end
def uptoSmall : (H : Type) → List (DataW H) → Bool := fun _ ds => decide (uptoBulkAll ds ≤ 1048576)
def OpenSpec.upto (s : _root_.Go.ChangeSpec) : _root_.Go.OpenSpec := { _root_.Go.OpenSpec.ofChange s with cond := some uptoSmall }

/-- 'pianolalaw11.ForestOf', WHERE WHAT IT READS IS OF BULK AT MOST 1048576: true; the input reads as it did. -/
def forestOfUptoRow : OpenClaim := { program := "yteokomepcgkddaa", sum := "3a8aba530a7b6b279b659ccc90bd777df73231f49ead2a4baeb3cd50a76fe988", func := "pianola/pianolalaw11.ForestOf", spec := "forestOf", unfollowed := true, recurses := true, apart := false, narrowed := true }
def ForestOfUptoSaid : Prop := forestOfUptoRow.holds Try.pinned (OpenSpec.upto forestOfSpec)

/-- 'pianolalaw11.ForestPath', WHERE WHAT IT READS IS OF BULK AT MOST 1048576: true; the input reads as it did. -/
def forestPathUptoRow : OpenClaim := { program := "yteokomepcgkddaa", sum := "3a8aba530a7b6b279b659ccc90bd777df73231f49ead2a4baeb3cd50a76fe988", func := "pianola/pianolalaw11.ForestPath", spec := "forestPath", unfollowed := true, recurses := true, apart := false, narrowed := true }
def ForestPathUptoSaid : Prop := forestPathUptoRow.holds Try.pinned (OpenSpec.upto forestPathSpec)

/-- 'pianolalaw11.ForestSpans', WHERE WHAT IT READS IS OF BULK AT MOST 1048576: true; the input reads as it did. -/
def forestSpansUptoRow : OpenClaim := { program := "yteokomepcgkddaa", sum := "3a8aba530a7b6b279b659ccc90bd777df73231f49ead2a4baeb3cd50a76fe988", func := "pianola/pianolalaw11.ForestSpans", spec := "forestSpans", unfollowed := true, recurses := true, apart := false, narrowed := true }
def ForestSpansUptoSaid : Prop := forestSpansUptoRow.holds Try.pinned (OpenSpec.upto forestSpansSpec)

/-- 'pianolalaw11.ForestWalks', WHERE WHAT IT READS IS OF BULK AT MOST 1048576: true; the input reads as it did. -/
def forestWalksUptoRow : OpenClaim := { program := "yteokomepcgkddaa", sum := "3a8aba530a7b6b279b659ccc90bd777df73231f49ead2a4baeb3cd50a76fe988", func := "pianola/pianolalaw11.ForestWalks", spec := "forestWalks", unfollowed := true, recurses := true, apart := false, narrowed := true }
def ForestWalksUptoSaid : Prop := forestWalksUptoRow.holds Try.pinned (OpenSpec.upto forestWalksSpec)

/-- 'pianolalaw11.ForestTurned', WHERE WHAT IT READS IS OF BULK AT MOST 1048576: true; the input reads as it did. -/
def forestTurnedUptoRow : OpenClaim := { program := "yteokomepcgkddaa", sum := "3a8aba530a7b6b279b659ccc90bd777df73231f49ead2a4baeb3cd50a76fe988", func := "pianola/pianolalaw11.ForestTurned", spec := "forestTurned", unfollowed := true, recurses := true, apart := false, narrowed := true }
def ForestTurnedUptoSaid : Prop := forestTurnedUptoRow.holds Try.pinned (OpenSpec.upto forestTurnedSpec)

/-- 'pianolalaw11.ForestHeads', WHERE WHAT IT READS IS OF BULK AT MOST 1048576: true; the input reads as it did. -/
def forestHeadsUptoRow : OpenClaim := { program := "yteokomepcgkddaa", sum := "3a8aba530a7b6b279b659ccc90bd777df73231f49ead2a4baeb3cd50a76fe988", func := "pianola/pianolalaw11.ForestHeads", spec := "forestHeads", unfollowed := true, recurses := true, apart := false, narrowed := true }
def ForestHeadsUptoSaid : Prop := forestHeadsUptoRow.holds Try.pinned (OpenSpec.upto forestHeadsSpec)

end Rows
end Go.Proofs.Yteokomepcgkddaa
