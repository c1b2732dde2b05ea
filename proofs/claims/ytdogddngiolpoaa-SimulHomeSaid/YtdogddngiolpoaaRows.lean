/-
  No cell of these rows narrows 'for every input' (looked for: loops, veiled, ifaces, maps, wideKeys, modest, calm, conditions, laid).
  DERIVED. THE GIVEN ROWS OF THIS SEAT. 6 by the template 'for every input the law returns true; each argument reads behind the call as it read before'; 0 by the template 'total and deterministic' (their statements: YtdogddngiolpoaaTotals.lean).
  GIVEN WITH THE SEED: the statements are not yours to turn. If you find one false, say at which input.
  Laid BY PROGRAM, IN A SANDBOX (cutbox-rows.mjs): the forced cells as the released guide's own fill.sh prints them over the translation 34f7a8fb04ad9a77… (all of the seat's roots in one cut). By AI agents, Wed Nov 11 2026. No macro, syntax, notation, axiom, sorry.
-/
import Derived.Test.YtdogddngiolpoaaChecked
import GoSem.Claim
import GoSem.ClaimJoined
import GoSem.ClaimMapViews
import Derived.JoinedTies
import Derived.KernelRfl
namespace Go.Proofs.Ytdogddngiolpoaa
/- THE CELL 'sum', in the pinned program and in every row, IS THE sha256 OF THE DUMP (.gsa) THAT YtdogddngiolpoaaProg.lean LOADS. Nothing in Lean hashes anything: it is a label: what it is worth is what the hold of that sum in a sandbox is worth. -/
noncomputable def Try.pinned : Pinned := { name := "ytdogddngiolpoaa", sum := "34f7a8fb04ad9a77d2adfb5fed49c6bb586eb40fc79a240e33f727cb18d8365f", checked := Try.checked }
namespace Rows
def none {H : Type} : Left H := { results := [], args := [] }

/-- 'pianolalaw15.SimulRuns': WHATEVER THE INPUT: true; the input reads as it did. -/
def simulRunsSpec : ChangeSpec := { name := "simulRuns", fn := fun _ => fun
  | [d1, d2, d3] => { results := [.lit (.bool true)], args := [d1, d2, d3] }
  | _ => none }
def simulRunsRow : OpenClaim := { program := "ytdogddngiolpoaa", sum := "34f7a8fb04ad9a77d2adfb5fed49c6bb586eb40fc79a240e33f727cb18d8365f", func := "pianola/pianolalaw15.SimulRuns", spec := "simulRuns", apart := false }
def SimulRunsSaid : Prop := simulRunsRow.holds Try.pinned (OpenSpec.ofChange simulRunsSpec)

/-- ITS FALSE NEIGHBOUR: 'it returns false'. Refute it at one input. -/
def simulRunsWrong : ChangeSpec := { name := "simulRuns", fn := fun _ => fun
  | [d1, d2, d3] => { results := [.lit (.bool false)], args := [d1, d2, d3] }
  | _ => none }
def SimulRunsWrongFalsely : Prop := simulRunsRow.holds Try.pinned (OpenSpec.ofChange simulRunsWrong)

/-- 'pianolalaw15.SimulRefuses': WHATEVER THE INPUT: true; the input reads as it did. -/
def simulRefusesSpec : ChangeSpec := { name := "simulRefuses", fn := fun _ => fun
  | [d1, d2, d3] => { results := [.lit (.bool true)], args := [d1, d2, d3] }
  | _ => none }
def simulRefusesRow : OpenClaim := { program := "ytdogddngiolpoaa", sum := "34f7a8fb04ad9a77d2adfb5fed49c6bb586eb40fc79a240e33f727cb18d8365f", func := "pianola/pianolalaw15.SimulRefuses", spec := "simulRefuses", apart := false }
def SimulRefusesSaid : Prop := simulRefusesRow.holds Try.pinned (OpenSpec.ofChange simulRefusesSpec)

/-- ITS FALSE NEIGHBOUR: 'it returns false'. Refute it at one input. -/
def simulRefusesWrong : ChangeSpec := { name := "simulRefuses", fn := fun _ => fun
  | [d1, d2, d3] => { results := [.lit (.bool false)], args := [d1, d2, d3] }
  | _ => none }
def SimulRefusesWrongFalsely : Prop := simulRefusesRow.holds Try.pinned (OpenSpec.ofChange simulRefusesWrong)

/-- 'pianolalaw15.SimulPrefers': WHATEVER THE INPUT: true; the input reads as it did. -/
def simulPrefersSpec : ChangeSpec := { name := "simulPrefers", fn := fun _ => fun
  | [d1, d2, d3] => { results := [.lit (.bool true)], args := [d1, d2, d3] }
  | _ => none }
def simulPrefersRow : OpenClaim := { program := "ytdogddngiolpoaa", sum := "34f7a8fb04ad9a77d2adfb5fed49c6bb586eb40fc79a240e33f727cb18d8365f", func := "pianola/pianolalaw15.SimulPrefers", spec := "simulPrefers", apart := false }
def SimulPrefersSaid : Prop := simulPrefersRow.holds Try.pinned (OpenSpec.ofChange simulPrefersSpec)

/-- ITS FALSE NEIGHBOUR: 'it returns false'. Refute it at one input. -/
def simulPrefersWrong : ChangeSpec := { name := "simulPrefers", fn := fun _ => fun
  | [d1, d2, d3] => { results := [.lit (.bool false)], args := [d1, d2, d3] }
  | _ => none }
def SimulPrefersWrongFalsely : Prop := simulPrefersRow.holds Try.pinned (OpenSpec.ofChange simulPrefersWrong)

/-- 'pianolalaw15.SimulAny': WHATEVER THE INPUT: true; the input reads as it did. -/
def simulAnySpec : ChangeSpec := { name := "simulAny", fn := fun _ => fun
  | [d1, d2, d3] => { results := [.lit (.bool true)], args := [d1, d2, d3] }
  | _ => none }
def simulAnyRow : OpenClaim := { program := "ytdogddngiolpoaa", sum := "34f7a8fb04ad9a77d2adfb5fed49c6bb586eb40fc79a240e33f727cb18d8365f", func := "pianola/pianolalaw15.SimulAny", spec := "simulAny", apart := false }
def SimulAnySaid : Prop := simulAnyRow.holds Try.pinned (OpenSpec.ofChange simulAnySpec)

/-- ITS FALSE NEIGHBOUR: 'it returns false'. Refute it at one input. -/
def simulAnyWrong : ChangeSpec := { name := "simulAny", fn := fun _ => fun
  | [d1, d2, d3] => { results := [.lit (.bool false)], args := [d1, d2, d3] }
  | _ => none }
def SimulAnyWrongFalsely : Prop := simulAnyRow.holds Try.pinned (OpenSpec.ofChange simulAnyWrong)

/-- 'pianolalaw15.SimulMore': WHATEVER THE INPUT: true; the input reads as it did. -/
def simulMoreSpec : ChangeSpec := { name := "simulMore", fn := fun _ => fun
  | [d1, d2, d3] => { results := [.lit (.bool true)], args := [d1, d2, d3] }
  | _ => none }
def simulMoreRow : OpenClaim := { program := "ytdogddngiolpoaa", sum := "34f7a8fb04ad9a77d2adfb5fed49c6bb586eb40fc79a240e33f727cb18d8365f", func := "pianola/pianolalaw15.SimulMore", spec := "simulMore", apart := false }
def SimulMoreSaid : Prop := simulMoreRow.holds Try.pinned (OpenSpec.ofChange simulMoreSpec)

/-- ITS FALSE NEIGHBOUR: 'it returns false'. Refute it at one input. -/
def simulMoreWrong : ChangeSpec := { name := "simulMore", fn := fun _ => fun
  | [d1, d2, d3] => { results := [.lit (.bool false)], args := [d1, d2, d3] }
  | _ => none }
def SimulMoreWrongFalsely : Prop := simulMoreRow.holds Try.pinned (OpenSpec.ofChange simulMoreWrong)

/-- 'pianolalaw15.SimulHome': WHATEVER THE INPUT: true; the input reads as it did. -/
def simulHomeSpec : ChangeSpec := { name := "simulHome", fn := fun _ => fun
  | [d1, d2, d3] => { results := [.lit (.bool true)], args := [d1, d2, d3] }
  | _ => none }
def simulHomeRow : OpenClaim := { program := "ytdogddngiolpoaa", sum := "34f7a8fb04ad9a77d2adfb5fed49c6bb586eb40fc79a240e33f727cb18d8365f", func := "pianola/pianolalaw15.SimulHome", spec := "simulHome", apart := false }
def SimulHomeSaid : Prop := simulHomeRow.holds Try.pinned (OpenSpec.ofChange simulHomeSpec)

/-- ITS FALSE NEIGHBOUR: 'it returns false'. Refute it at one input. -/
def simulHomeWrong : ChangeSpec := { name := "simulHome", fn := fun _ => fun
  | [d1, d2, d3] => { results := [.lit (.bool false)], args := [d1, d2, d3] }
  | _ => none }
def SimulHomeWrongFalsely : Prop := simulHomeRow.holds Try.pinned (OpenSpec.ofChange simulHomeWrong)

/- THE SECOND FORM. 'bulk': how many values and letters a reading holds, each counted each time it is reached (what is shared counts as often as it is met; a slice's spare places count too). A statement '..UptoSaid' is the law's where the arguments, and the package variables that the reading takes, are together of bulk at most 1048576: NARROWER than '..Said'. Prove '..Said' where nothing that the law and all that it calls make is longer than what came in: it says more and counts as full. Else prove '..UptoSaid'. A law counts once. -/
mutual
def uptoBulk {H : Type} : DataW H → Nat
  | .lit (.string bytes) => bytes.length + 1
  | .lit _ => 1
  | .nil => 1
  | .ptr d => uptoBulk d + 1
  | .slice elems spare => uptoBulkAll elems + uptoBulkAll spare + 1
  | .agg parts => uptoBulkAll parts + 1
  | .iface _ d => uptoBulk d + 1
  | .map entries => uptoBulkEntries entries + 1
  | .held _ => 1
def uptoBulkAll {H : Type} : List (DataW H) → Nat
  | [] => 0
  | d :: r => uptoBulk d + uptoBulkAll r
def uptoBulkEntries {H : Type} : List (Lit × DataW H) → Nat
  | [] => 0
  | x :: r => uptoBulkEntry x + uptoBulkEntries r
def uptoBulkEntry {H : Type} : Lit × DataW H → Nat
  | (.string bytes, d) => bytes.length + uptoBulk d + 1
  | (_, d) => uptoBulk d + 1
 end
def uptoSmall : (H : Type) → List (DataW H) → Bool := fun _ ds => decide (uptoBulkAll ds ≤ 1048576)
def OpenSpec.upto (s : _root_.Go.ChangeSpec) : _root_.Go.OpenSpec := { _root_.Go.OpenSpec.ofChange s with cond := some uptoSmall }

/-- 'pianolalaw15.SimulRuns', WHERE WHAT IT READS IS OF BULK AT MOST 1048576: true; the input reads as it did. -/
def simulRunsUptoRow : OpenClaim := { program := "ytdogddngiolpoaa", sum := "34f7a8fb04ad9a77d2adfb5fed49c6bb586eb40fc79a240e33f727cb18d8365f", func := "pianola/pianolalaw15.SimulRuns", spec := "simulRuns", apart := false, narrowed := true }
def SimulRunsUptoSaid : Prop := simulRunsUptoRow.holds Try.pinned (OpenSpec.upto simulRunsSpec)

/-- 'pianolalaw15.SimulRefuses', WHERE WHAT IT READS IS OF BULK AT MOST 1048576: true; the input reads as it did. -/
def simulRefusesUptoRow : OpenClaim := { program := "ytdogddngiolpoaa", sum := "34f7a8fb04ad9a77d2adfb5fed49c6bb586eb40fc79a240e33f727cb18d8365f", func := "pianola/pianolalaw15.SimulRefuses", spec := "simulRefuses", apart := false, narrowed := true }
def SimulRefusesUptoSaid : Prop := simulRefusesUptoRow.holds Try.pinned (OpenSpec.upto simulRefusesSpec)

/-- 'pianolalaw15.SimulPrefers', WHERE WHAT IT READS IS OF BULK AT MOST 1048576: true; the input reads as it did. -/
def simulPrefersUptoRow : OpenClaim := { program := "ytdogddngiolpoaa", sum := "34f7a8fb04ad9a77d2adfb5fed49c6bb586eb40fc79a240e33f727cb18d8365f", func := "pianola/pianolalaw15.SimulPrefers", spec := "simulPrefers", apart := false, narrowed := true }
def SimulPrefersUptoSaid : Prop := simulPrefersUptoRow.holds Try.pinned (OpenSpec.upto simulPrefersSpec)

/-- 'pianolalaw15.SimulAny', WHERE WHAT IT READS IS OF BULK AT MOST 1048576: true; the input reads as it did. -/
def simulAnyUptoRow : OpenClaim := { program := "ytdogddngiolpoaa", sum := "34f7a8fb04ad9a77d2adfb5fed49c6bb586eb40fc79a240e33f727cb18d8365f", func := "pianola/pianolalaw15.SimulAny", spec := "simulAny", apart := false, narrowed := true }
def SimulAnyUptoSaid : Prop := simulAnyUptoRow.holds Try.pinned (OpenSpec.upto simulAnySpec)

/-- 'pianolalaw15.SimulMore', WHERE WHAT IT READS IS OF BULK AT MOST 1048576: true; the input reads as it did. -/
def simulMoreUptoRow : OpenClaim := { program := "ytdogddngiolpoaa", sum := "34f7a8fb04ad9a77d2adfb5fed49c6bb586eb40fc79a240e33f727cb18d8365f", func := "pianola/pianolalaw15.SimulMore", spec := "simulMore", apart := false, narrowed := true }
def SimulMoreUptoSaid : Prop := simulMoreUptoRow.holds Try.pinned (OpenSpec.upto simulMoreSpec)

/-- 'pianolalaw15.SimulHome', WHERE WHAT IT READS IS OF BULK AT MOST 1048576: true; the input reads as it did. -/
def simulHomeUptoRow : OpenClaim := { program := "ytdogddngiolpoaa", sum := "34f7a8fb04ad9a77d2adfb5fed49c6bb586eb40fc79a240e33f727cb18d8365f", func := "pianola/pianolalaw15.SimulHome", spec := "simulHome", apart := false, narrowed := true }
def SimulHomeUptoSaid : Prop := simulHomeUptoRow.holds Try.pinned (OpenSpec.upto simulHomeSpec)

end Rows
end Go.Proofs.Ytdogddngiolpoaa
