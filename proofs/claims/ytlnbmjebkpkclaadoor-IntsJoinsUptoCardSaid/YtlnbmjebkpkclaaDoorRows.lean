/-
  NARROWER THAN 'FOR EVERY INPUT', by the rows' own cells (each row's printed sentence says how): IntsAdds: laid · IntsSums: laid · IntsGcds: laid · IntsLcms: laid · IntsDots: laid · IntsBack: laid · IntsDivides: laid · IntsMultiple: laid · IntsJoins: laid · IntsProduct: laid · IntsNames: laid.
  DERIVED. THE GIVEN ROWS OF THIS SEAT. 11 by the template 'for every input the law returns true; each argument reads behind the call as it read before'; 0 by the template 'total and deterministic' (their statements: YtlnbmjebkpkclaaDoorTotals.lean).
  GIVEN WITH THE SEED: the statements are not yours to turn. If you find one false, say at which input.
  Laid BY PROGRAM, IN A SANDBOX (cutbox-rows.mjs): the forced cells as the released guide's own fill.sh prints them over the translation 6d69409c639113b9… (all of the seat's roots in one cut). By AI agents, Wed Nov 11 2026. No macro, syntax, notation, axiom, sorry.
-/
import Derived.Test.YtlnbmjebkpkclaaDoorChecked
import GoSem.Claim
import GoSem.ClaimJoined
import GoSem.ClaimMapViews
import Derived.JoinedTies
import Derived.KernelRfl
namespace Go.Proofs.YtlnbmjebkpkclaaDoor
/- THE CELL 'sum', in the pinned program and in every row, IS THE sha256 OF THE DUMP (.gsa) THAT YtlnbmjebkpkclaaDoorProg.lean LOADS. Nothing in Lean hashes anything: it is a label: what it is worth is what the hold of that sum in a sandbox is worth. -/
noncomputable def Tryd.pinned : Pinned := { name := "ytlnbmjebkpkclaadoor", sum := "6d69409c639113b910e2007c85a44bd9d6d3b26dd4baae02a9090d7e65e834ce", checked := Tryd.checked }
namespace Rows
def none {H : Type} : Left H := { results := [], args := [] }

/- WHAT THE LISTED PACKAGE-LEVEL VARIABLES READ AS WHEN THE CALL BEGINS. Each datum BY PROGRAM (the guide's laid-datum.mjs) off the statement by which the dump's own 'gosem.cut.vars' lays the variable. In a bare row this is a premise. The card (YtlnbmjebkpkclaaDoorCards.lean) ties it to the program's text. -/
def laid_math_bits_deBruijn64tab {H : Type} : DataW H := .agg [.lit (.int .u8 0), .lit (.int .u8 1), .lit (.int .u8 56), .lit (.int .u8 2), .lit (.int .u8 57), .lit (.int .u8 49), .lit (.int .u8 28), .lit (.int .u8 3), .lit (.int .u8 61), .lit (.int .u8 58), .lit (.int .u8 42), .lit (.int .u8 50), .lit (.int .u8 38), .lit (.int .u8 29), .lit (.int .u8 17), .lit (.int .u8 4), .lit (.int .u8 62), .lit (.int .u8 47), .lit (.int .u8 59), .lit (.int .u8 36), .lit (.int .u8 45), .lit (.int .u8 43), .lit (.int .u8 51), .lit (.int .u8 22), .lit (.int .u8 53), .lit (.int .u8 39), .lit (.int .u8 33), .lit (.int .u8 30), .lit (.int .u8 24), .lit (.int .u8 18), .lit (.int .u8 12), .lit (.int .u8 5), .lit (.int .u8 63), .lit (.int .u8 55), .lit (.int .u8 48), .lit (.int .u8 27), .lit (.int .u8 60), .lit (.int .u8 41), .lit (.int .u8 37), .lit (.int .u8 16), .lit (.int .u8 46), .lit (.int .u8 35), .lit (.int .u8 44), .lit (.int .u8 21), .lit (.int .u8 52), .lit (.int .u8 32), .lit (.int .u8 23), .lit (.int .u8 11), .lit (.int .u8 54), .lit (.int .u8 26), .lit (.int .u8 40), .lit (.int .u8 15), .lit (.int .u8 34), .lit (.int .u8 20), .lit (.int .u8 31), .lit (.int .u8 10), .lit (.int .u8 25), .lit (.int .u8 14), .lit (.int .u8 19), .lit (.int .u8 9), .lit (.int .u8 13), .lit (.int .u8 8), .lit (.int .u8 7), .lit (.int .u8 6)]

/-- 'pianolalaw01.IntsAdds': WHATEVER THE INPUT: true; the input reads as it did. -/
def intsAddsSpec : ChangeSpec := { name := "intsAdds", fn := fun _ => fun
  | [d1, d2] => { results := [.lit (.bool true)], args := [d1, d2] }
  | _ => none }
def intsAddsRow : OpenClaim := { program := "ytlnbmjebkpkclaadoor", sum := "6d69409c639113b910e2007c85a44bd9d6d3b26dd4baae02a9090d7e65e834ce", func := "pianola/pianolalaw01.IntsAdds", spec := "intsAdds", named := ["math/bits.deBruijn64tab"], apart := false, laid := [("math/bits.deBruijn64tab", laid_math_bits_deBruijn64tab)] }
def IntsAddsSaid : Prop := intsAddsRow.holds Tryd.pinned (OpenSpec.ofChange intsAddsSpec)

/-- ITS FALSE NEIGHBOUR: 'it returns false'. Refute it at one input. -/
def intsAddsWrong : ChangeSpec := { name := "intsAdds", fn := fun _ => fun
  | [d1, d2] => { results := [.lit (.bool false)], args := [d1, d2] }
  | _ => none }
def IntsAddsWrongFalsely : Prop := intsAddsRow.holds Tryd.pinned (OpenSpec.ofChange intsAddsWrong)

/-- 'pianolalaw01.IntsSums': WHATEVER THE INPUT: true; the input reads as it did. -/
def intsSumsSpec : ChangeSpec := { name := "intsSums", fn := fun _ => fun
  | [d] => { results := [.lit (.bool true)], args := [d] }
  | _ => none }
def intsSumsRow : OpenClaim := { program := "ytlnbmjebkpkclaadoor", sum := "6d69409c639113b910e2007c85a44bd9d6d3b26dd4baae02a9090d7e65e834ce", func := "pianola/pianolalaw01.IntsSums", spec := "intsSums", named := ["math/bits.deBruijn64tab"], apart := false, laid := [("math/bits.deBruijn64tab", laid_math_bits_deBruijn64tab)] }
def IntsSumsSaid : Prop := intsSumsRow.holds Tryd.pinned (OpenSpec.ofChange intsSumsSpec)

/-- ITS FALSE NEIGHBOUR: 'it returns false'. Refute it at one input. -/
def intsSumsWrong : ChangeSpec := { name := "intsSums", fn := fun _ => fun
  | [d] => { results := [.lit (.bool false)], args := [d] }
  | _ => none }
def IntsSumsWrongFalsely : Prop := intsSumsRow.holds Tryd.pinned (OpenSpec.ofChange intsSumsWrong)

/-- 'pianolalaw01.IntsGcds': WHATEVER THE INPUT: true; the input reads as it did. -/
def intsGcdsSpec : ChangeSpec := { name := "intsGcds", fn := fun _ => fun
  | [d] => { results := [.lit (.bool true)], args := [d] }
  | _ => none }
def intsGcdsRow : OpenClaim := { program := "ytlnbmjebkpkclaadoor", sum := "6d69409c639113b910e2007c85a44bd9d6d3b26dd4baae02a9090d7e65e834ce", func := "pianola/pianolalaw01.IntsGcds", spec := "intsGcds", named := ["math/bits.deBruijn64tab"], apart := false, laid := [("math/bits.deBruijn64tab", laid_math_bits_deBruijn64tab)] }
def IntsGcdsSaid : Prop := intsGcdsRow.holds Tryd.pinned (OpenSpec.ofChange intsGcdsSpec)

/-- ITS FALSE NEIGHBOUR: 'it returns false'. Refute it at one input. -/
def intsGcdsWrong : ChangeSpec := { name := "intsGcds", fn := fun _ => fun
  | [d] => { results := [.lit (.bool false)], args := [d] }
  | _ => none }
def IntsGcdsWrongFalsely : Prop := intsGcdsRow.holds Tryd.pinned (OpenSpec.ofChange intsGcdsWrong)

/-- 'pianolalaw01.IntsLcms': WHATEVER THE INPUT: true; the input reads as it did. -/
def intsLcmsSpec : ChangeSpec := { name := "intsLcms", fn := fun _ => fun
  | [d] => { results := [.lit (.bool true)], args := [d] }
  | _ => none }
def intsLcmsRow : OpenClaim := { program := "ytlnbmjebkpkclaadoor", sum := "6d69409c639113b910e2007c85a44bd9d6d3b26dd4baae02a9090d7e65e834ce", func := "pianola/pianolalaw01.IntsLcms", spec := "intsLcms", named := ["math/bits.deBruijn64tab"], apart := false, laid := [("math/bits.deBruijn64tab", laid_math_bits_deBruijn64tab)] }
def IntsLcmsSaid : Prop := intsLcmsRow.holds Tryd.pinned (OpenSpec.ofChange intsLcmsSpec)

/-- ITS FALSE NEIGHBOUR: 'it returns false'. Refute it at one input. -/
def intsLcmsWrong : ChangeSpec := { name := "intsLcms", fn := fun _ => fun
  | [d] => { results := [.lit (.bool false)], args := [d] }
  | _ => none }
def IntsLcmsWrongFalsely : Prop := intsLcmsRow.holds Tryd.pinned (OpenSpec.ofChange intsLcmsWrong)

/-- 'pianolalaw01.IntsDots': WHATEVER THE INPUT: true; the input reads as it did. -/
def intsDotsSpec : ChangeSpec := { name := "intsDots", fn := fun _ => fun
  | [d1, d2] => { results := [.lit (.bool true)], args := [d1, d2] }
  | _ => none }
def intsDotsRow : OpenClaim := { program := "ytlnbmjebkpkclaadoor", sum := "6d69409c639113b910e2007c85a44bd9d6d3b26dd4baae02a9090d7e65e834ce", func := "pianola/pianolalaw01.IntsDots", spec := "intsDots", named := ["math/bits.deBruijn64tab"], apart := false, laid := [("math/bits.deBruijn64tab", laid_math_bits_deBruijn64tab)] }
def IntsDotsSaid : Prop := intsDotsRow.holds Tryd.pinned (OpenSpec.ofChange intsDotsSpec)

/-- ITS FALSE NEIGHBOUR: 'it returns false'. Refute it at one input. -/
def intsDotsWrong : ChangeSpec := { name := "intsDots", fn := fun _ => fun
  | [d1, d2] => { results := [.lit (.bool false)], args := [d1, d2] }
  | _ => none }
def IntsDotsWrongFalsely : Prop := intsDotsRow.holds Tryd.pinned (OpenSpec.ofChange intsDotsWrong)

/-- 'pianolalaw01.IntsBack': WHATEVER THE INPUT: true; the input reads as it did. -/
def intsBackSpec : ChangeSpec := { name := "intsBack", fn := fun _ => fun
  | [d1, d2, d3] => { results := [.lit (.bool true)], args := [d1, d2, d3] }
  | _ => none }
def intsBackRow : OpenClaim := { program := "ytlnbmjebkpkclaadoor", sum := "6d69409c639113b910e2007c85a44bd9d6d3b26dd4baae02a9090d7e65e834ce", func := "pianola/pianolalaw01.IntsBack", spec := "intsBack", named := ["math/bits.deBruijn64tab"], apart := false, laid := [("math/bits.deBruijn64tab", laid_math_bits_deBruijn64tab)] }
def IntsBackSaid : Prop := intsBackRow.holds Tryd.pinned (OpenSpec.ofChange intsBackSpec)

/-- ITS FALSE NEIGHBOUR: 'it returns false'. Refute it at one input. -/
def intsBackWrong : ChangeSpec := { name := "intsBack", fn := fun _ => fun
  | [d1, d2, d3] => { results := [.lit (.bool false)], args := [d1, d2, d3] }
  | _ => none }
def IntsBackWrongFalsely : Prop := intsBackRow.holds Tryd.pinned (OpenSpec.ofChange intsBackWrong)

/-- 'pianolalaw01.IntsDivides': WHATEVER THE INPUT: true; the input reads as it did. -/
def intsDividesSpec : ChangeSpec := { name := "intsDivides", fn := fun _ => fun
  | [d1, d2] => { results := [.lit (.bool true)], args := [d1, d2] }
  | _ => none }
def intsDividesRow : OpenClaim := { program := "ytlnbmjebkpkclaadoor", sum := "6d69409c639113b910e2007c85a44bd9d6d3b26dd4baae02a9090d7e65e834ce", func := "pianola/pianolalaw01.IntsDivides", spec := "intsDivides", named := ["math/bits.deBruijn64tab"], apart := false, laid := [("math/bits.deBruijn64tab", laid_math_bits_deBruijn64tab)] }
def IntsDividesSaid : Prop := intsDividesRow.holds Tryd.pinned (OpenSpec.ofChange intsDividesSpec)

/-- ITS FALSE NEIGHBOUR: 'it returns false'. Refute it at one input. -/
def intsDividesWrong : ChangeSpec := { name := "intsDivides", fn := fun _ => fun
  | [d1, d2] => { results := [.lit (.bool false)], args := [d1, d2] }
  | _ => none }
def IntsDividesWrongFalsely : Prop := intsDividesRow.holds Tryd.pinned (OpenSpec.ofChange intsDividesWrong)

/-- 'pianolalaw01.IntsMultiple': WHATEVER THE INPUT: true; the input reads as it did. -/
def intsMultipleSpec : ChangeSpec := { name := "intsMultiple", fn := fun _ => fun
  | [d1, d2] => { results := [.lit (.bool true)], args := [d1, d2] }
  | _ => none }
def intsMultipleRow : OpenClaim := { program := "ytlnbmjebkpkclaadoor", sum := "6d69409c639113b910e2007c85a44bd9d6d3b26dd4baae02a9090d7e65e834ce", func := "pianola/pianolalaw01.IntsMultiple", spec := "intsMultiple", named := ["math/bits.deBruijn64tab"], apart := false, laid := [("math/bits.deBruijn64tab", laid_math_bits_deBruijn64tab)] }
def IntsMultipleSaid : Prop := intsMultipleRow.holds Tryd.pinned (OpenSpec.ofChange intsMultipleSpec)

/-- ITS FALSE NEIGHBOUR: 'it returns false'. Refute it at one input. -/
def intsMultipleWrong : ChangeSpec := { name := "intsMultiple", fn := fun _ => fun
  | [d1, d2] => { results := [.lit (.bool false)], args := [d1, d2] }
  | _ => none }
def IntsMultipleWrongFalsely : Prop := intsMultipleRow.holds Tryd.pinned (OpenSpec.ofChange intsMultipleWrong)

/-- 'pianolalaw01.IntsJoins': WHATEVER THE INPUT: true; the input reads as it did. -/
def intsJoinsSpec : ChangeSpec := { name := "intsJoins", fn := fun _ => fun
  | [d1, d2] => { results := [.lit (.bool true)], args := [d1, d2] }
  | _ => none }
def intsJoinsRow : OpenClaim := { program := "ytlnbmjebkpkclaadoor", sum := "6d69409c639113b910e2007c85a44bd9d6d3b26dd4baae02a9090d7e65e834ce", func := "pianola/pianolalaw01.IntsJoins", spec := "intsJoins", named := ["math/bits.deBruijn64tab"], apart := false, laid := [("math/bits.deBruijn64tab", laid_math_bits_deBruijn64tab)] }
def IntsJoinsSaid : Prop := intsJoinsRow.holds Tryd.pinned (OpenSpec.ofChange intsJoinsSpec)

/-- ITS FALSE NEIGHBOUR: 'it returns false'. Refute it at one input. -/
def intsJoinsWrong : ChangeSpec := { name := "intsJoins", fn := fun _ => fun
  | [d1, d2] => { results := [.lit (.bool false)], args := [d1, d2] }
  | _ => none }
def IntsJoinsWrongFalsely : Prop := intsJoinsRow.holds Tryd.pinned (OpenSpec.ofChange intsJoinsWrong)

/-- 'pianolalaw01.IntsProduct': WHATEVER THE INPUT: true; the input reads as it did. -/
def intsProductSpec : ChangeSpec := { name := "intsProduct", fn := fun _ => fun
  | [d1, d2] => { results := [.lit (.bool true)], args := [d1, d2] }
  | _ => none }
def intsProductRow : OpenClaim := { program := "ytlnbmjebkpkclaadoor", sum := "6d69409c639113b910e2007c85a44bd9d6d3b26dd4baae02a9090d7e65e834ce", func := "pianola/pianolalaw01.IntsProduct", spec := "intsProduct", named := ["math/bits.deBruijn64tab"], apart := false, laid := [("math/bits.deBruijn64tab", laid_math_bits_deBruijn64tab)] }
def IntsProductSaid : Prop := intsProductRow.holds Tryd.pinned (OpenSpec.ofChange intsProductSpec)

/-- ITS FALSE NEIGHBOUR: 'it returns false'. Refute it at one input. -/
def intsProductWrong : ChangeSpec := { name := "intsProduct", fn := fun _ => fun
  | [d1, d2] => { results := [.lit (.bool false)], args := [d1, d2] }
  | _ => none }
def IntsProductWrongFalsely : Prop := intsProductRow.holds Tryd.pinned (OpenSpec.ofChange intsProductWrong)

/-- 'pianolalaw01.IntsNames': WHATEVER THE INPUT: true; the input reads as it did. -/
def intsNamesSpec : ChangeSpec := { name := "intsNames", fn := fun _ => fun
  | [] => { results := [.lit (.bool true)], args := [] }
  | _ => none }
def intsNamesRow : OpenClaim := { program := "ytlnbmjebkpkclaadoor", sum := "6d69409c639113b910e2007c85a44bd9d6d3b26dd4baae02a9090d7e65e834ce", func := "pianola/pianolalaw01.IntsNames", spec := "intsNames", named := ["math/bits.deBruijn64tab"], apart := false, laid := [("math/bits.deBruijn64tab", laid_math_bits_deBruijn64tab)] }
def IntsNamesSaid : Prop := intsNamesRow.holds Tryd.pinned (OpenSpec.ofChange intsNamesSpec)

/-- ITS FALSE NEIGHBOUR: 'it returns false'. Refute it at one input. -/
def intsNamesWrong : ChangeSpec := { name := "intsNames", fn := fun _ => fun
  | [] => { results := [.lit (.bool false)], args := [] }
  | _ => none }
def IntsNamesWrongFalsely : Prop := intsNamesRow.holds Tryd.pinned (OpenSpec.ofChange intsNamesWrong)

/- THE SECOND FORM. 'bulk': how many values and letters a reading holds, each counted each time it is reached (what is shared counts as often as it is met; a slice's spare places count too). A statement '..UptoSaid' is the law's where the arguments, and the package variables that the reading takes, are together of bulk at most 1048576: NARROWER than '..Said'. Prove '..Said' where nothing that the law and all that it calls make is longer than what came in: it says more and counts as full. Else prove '..UptoSaid'. A law counts once. -/
mutual
def uptoBulk {H : Type} : DataW H → Nat
  | .lit (.string bytes) => bytes.length + 1
  | .lit _ => 1
  | .nil => 1
  | .ptr d => uptoBulk d + 1
  | .slice elems spare => uptoBulkAll elems + uptoBulkAll spare + 1
  | .agg parts => uptoBulkAll parts + 1
  | .iface _ d => uptoBulk d + 1
  | .map entries => uptoBulkEntries entries + 1
  | .held _ => 1
def uptoBulkAll {H : Type} : List (DataW H) → Nat
  | [] => 0
  | d :: r => uptoBulk d + uptoBulkAll r
def uptoBulkEntries {H : Type} : List (Lit × DataW H) → Nat
  | [] => 0
  | x :: r => uptoBulkEntry x + uptoBulkEntries r
def uptoBulkEntry {H : Type} : Lit × DataW H → Nat
  | (.string bytes, d) => bytes.length + uptoBulk d + 1
  | (_, d) => uptoBulk d + 1
 end
def uptoSmall : (H : Type) → List (DataW H) → Bool := fun _ ds => decide (uptoBulkAll ds ≤ 1048576)
def OpenSpec.upto (s : _root_.Go.ChangeSpec) : _root_.Go.OpenSpec := { _root_.Go.OpenSpec.ofChange s with cond := some uptoSmall }

/-- 'pianolalaw01.IntsAdds', WHERE WHAT IT READS IS OF BULK AT MOST 1048576: true; the input reads as it did. -/
def intsAddsUptoRow : OpenClaim := { program := "ytlnbmjebkpkclaadoor", sum := "6d69409c639113b910e2007c85a44bd9d6d3b26dd4baae02a9090d7e65e834ce", func := "pianola/pianolalaw01.IntsAdds", spec := "intsAdds", named := ["math/bits.deBruijn64tab"], apart := false, laid := [("math/bits.deBruijn64tab", laid_math_bits_deBruijn64tab)], narrowed := true }
def IntsAddsUptoSaid : Prop := intsAddsUptoRow.holds Tryd.pinned (OpenSpec.upto intsAddsSpec)

/-- 'pianolalaw01.IntsSums', WHERE WHAT IT READS IS OF BULK AT MOST 1048576: true; the input reads as it did. -/
def intsSumsUptoRow : OpenClaim := { program := "ytlnbmjebkpkclaadoor", sum := "6d69409c639113b910e2007c85a44bd9d6d3b26dd4baae02a9090d7e65e834ce", func := "pianola/pianolalaw01.IntsSums", spec := "intsSums", named := ["math/bits.deBruijn64tab"], apart := false, laid := [("math/bits.deBruijn64tab", laid_math_bits_deBruijn64tab)], narrowed := true }
def IntsSumsUptoSaid : Prop := intsSumsUptoRow.holds Tryd.pinned (OpenSpec.upto intsSumsSpec)

/-- 'pianolalaw01.IntsGcds', WHERE WHAT IT READS IS OF BULK AT MOST 1048576: true; the input reads as it did. -/
def intsGcdsUptoRow : OpenClaim := { program := "ytlnbmjebkpkclaadoor", sum := "6d69409c639113b910e2007c85a44bd9d6d3b26dd4baae02a9090d7e65e834ce", func := "pianola/pianolalaw01.IntsGcds", spec := "intsGcds", named := ["math/bits.deBruijn64tab"], apart := false, laid := [("math/bits.deBruijn64tab", laid_math_bits_deBruijn64tab)], narrowed := true }
def IntsGcdsUptoSaid : Prop := intsGcdsUptoRow.holds Tryd.pinned (OpenSpec.upto intsGcdsSpec)

/-- 'pianolalaw01.IntsLcms', WHERE WHAT IT READS IS OF BULK AT MOST 1048576: true; the input reads as it did. -/
def intsLcmsUptoRow : OpenClaim := { program := "ytlnbmjebkpkclaadoor", sum := "6d69409c639113b910e2007c85a44bd9d6d3b26dd4baae02a9090d7e65e834ce", func := "pianola/pianolalaw01.IntsLcms", spec := "intsLcms", named := ["math/bits.deBruijn64tab"], apart := false, laid := [("math/bits.deBruijn64tab", laid_math_bits_deBruijn64tab)], narrowed := true }
def IntsLcmsUptoSaid : Prop := intsLcmsUptoRow.holds Tryd.pinned (OpenSpec.upto intsLcmsSpec)

/-- 'pianolalaw01.IntsDots', WHERE WHAT IT READS IS OF BULK AT MOST 1048576: true; the input reads as it did. -/
def intsDotsUptoRow : OpenClaim := { program := "ytlnbmjebkpkclaadoor", sum := "6d69409c639113b910e2007c85a44bd9d6d3b26dd4baae02a9090d7e65e834ce", func := "pianola/pianolalaw01.IntsDots", spec := "intsDots", named := ["math/bits.deBruijn64tab"], apart := false, laid := [("math/bits.deBruijn64tab", laid_math_bits_deBruijn64tab)], narrowed := true }
def IntsDotsUptoSaid : Prop := intsDotsUptoRow.holds Tryd.pinned (OpenSpec.upto intsDotsSpec)

/-- 'pianolalaw01.IntsBack', WHERE WHAT IT READS IS OF BULK AT MOST 1048576: true; the input reads as it did. -/
def intsBackUptoRow : OpenClaim := { program := "ytlnbmjebkpkclaadoor", sum := "6d69409c639113b910e2007c85a44bd9d6d3b26dd4baae02a9090d7e65e834ce", func := "pianola/pianolalaw01.IntsBack", spec := "intsBack", named := ["math/bits.deBruijn64tab"], apart := false, laid := [("math/bits.deBruijn64tab", laid_math_bits_deBruijn64tab)], narrowed := true }
def IntsBackUptoSaid : Prop := intsBackUptoRow.holds Tryd.pinned (OpenSpec.upto intsBackSpec)

/-- 'pianolalaw01.IntsDivides', WHERE WHAT IT READS IS OF BULK AT MOST 1048576: true; the input reads as it did. -/
def intsDividesUptoRow : OpenClaim := { program := "ytlnbmjebkpkclaadoor", sum := "6d69409c639113b910e2007c85a44bd9d6d3b26dd4baae02a9090d7e65e834ce", func := "pianola/pianolalaw01.IntsDivides", spec := "intsDivides", named := ["math/bits.deBruijn64tab"], apart := false, laid := [("math/bits.deBruijn64tab", laid_math_bits_deBruijn64tab)], narrowed := true }
def IntsDividesUptoSaid : Prop := intsDividesUptoRow.holds Tryd.pinned (OpenSpec.upto intsDividesSpec)

/-- 'pianolalaw01.IntsMultiple', WHERE WHAT IT READS IS OF BULK AT MOST 1048576: true; the input reads as it did. -/
def intsMultipleUptoRow : OpenClaim := { program := "ytlnbmjebkpkclaadoor", sum := "6d69409c639113b910e2007c85a44bd9d6d3b26dd4baae02a9090d7e65e834ce", func := "pianola/pianolalaw01.IntsMultiple", spec := "intsMultiple", named := ["math/bits.deBruijn64tab"], apart := false, laid := [("math/bits.deBruijn64tab", laid_math_bits_deBruijn64tab)], narrowed := true }
def IntsMultipleUptoSaid : Prop := intsMultipleUptoRow.holds Tryd.pinned (OpenSpec.upto intsMultipleSpec)

/-- 'pianolalaw01.IntsJoins', WHERE WHAT IT READS IS OF BULK AT MOST 1048576: true; the input reads as it did. -/
def intsJoinsUptoRow : OpenClaim := { program := "ytlnbmjebkpkclaadoor", sum := "6d69409c639113b910e2007c85a44bd9d6d3b26dd4baae02a9090d7e65e834ce", func := "pianola/pianolalaw01.IntsJoins", spec := "intsJoins", named := ["math/bits.deBruijn64tab"], apart := false, laid := [("math/bits.deBruijn64tab", laid_math_bits_deBruijn64tab)], narrowed := true }
def IntsJoinsUptoSaid : Prop := intsJoinsUptoRow.holds Tryd.pinned (OpenSpec.upto intsJoinsSpec)

/-- 'pianolalaw01.IntsProduct', WHERE WHAT IT READS IS OF BULK AT MOST 1048576: true; the input reads as it did. -/
def intsProductUptoRow : OpenClaim := { program := "ytlnbmjebkpkclaadoor", sum := "6d69409c639113b910e2007c85a44bd9d6d3b26dd4baae02a9090d7e65e834ce", func := "pianola/pianolalaw01.IntsProduct", spec := "intsProduct", named := ["math/bits.deBruijn64tab"], apart := false, laid := [("math/bits.deBruijn64tab", laid_math_bits_deBruijn64tab)], narrowed := true }
def IntsProductUptoSaid : Prop := intsProductUptoRow.holds Tryd.pinned (OpenSpec.upto intsProductSpec)

/-- 'pianolalaw01.IntsNames', WHERE WHAT IT READS IS OF BULK AT MOST 1048576: true; the input reads as it did. -/
def intsNamesUptoRow : OpenClaim := { program := "ytlnbmjebkpkclaadoor", sum := "6d69409c639113b910e2007c85a44bd9d6d3b26dd4baae02a9090d7e65e834ce", func := "pianola/pianolalaw01.IntsNames", spec := "intsNames", named := ["math/bits.deBruijn64tab"], apart := false, laid := [("math/bits.deBruijn64tab", laid_math_bits_deBruijn64tab)], narrowed := true }
def IntsNamesUptoSaid : Prop := intsNamesUptoRow.holds Tryd.pinned (OpenSpec.upto intsNamesSpec)

end Rows
end Go.Proofs.YtlnbmjebkpkclaaDoor
