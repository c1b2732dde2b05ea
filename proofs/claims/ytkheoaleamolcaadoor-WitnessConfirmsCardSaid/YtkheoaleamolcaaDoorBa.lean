/-
  In a seat that has ints' texts: what the text Ba holds in others (this file stands under the name Ba there).
-/
import Derived.Test.YtkheoaleamolcaaDoorWk
import Derived.Test.YtkheoaleamolcaaDoorIi
namespace Go.Proofs.YtkheoaleamolcaaDoor
open Go.RowKit
theorem own_ge {w : World} {base : Nat} {e : TypeId} {size n k : Nat} {v : Value} {xs : List Value} (h : w.ownsRow base e size v n xs) (hk : v.ownBlock = some k) : base ≤ k := by
  rcases h.2 with ⟨rfl, _⟩ | ⟨g, cap, cur, rfl, hg, _⟩
  · simp [Value.ownBlock] at hk
  · simp [Value.ownBlock] at hk; omega
end Go.Proofs.YtkheoaleamolcaaDoor
