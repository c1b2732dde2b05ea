/-
  The document's answer for Gcd (Euclid's way), and IntsGcds: it answers true at every list.
-/
import Derived.Test.YtkheoaleamolcaaDoorIf
namespace Go.Proofs.YtkheoaleamolcaaDoor
open Go.RowKit




theorem own_below {w w' : World} {base : Nat} {e : TypeId} {size n : Nat} {v : Value} {xs : List Value} (h : w.ownsRow base e size v n xs) (hb : Below w.heap.size w w') : w'.ownsRow base e size v n xs := by
  refine h.kept (row := none) ⟨hb.os, hb.tape, hb.output, hb.size, fun k hk _ => hb.block k hk⟩ ?_
  cases v.ownBlock <;> simp

end Go.Proofs.YtkheoaleamolcaaDoor
