/-
  IntsDivides answers true at every list and every number.
-/
import Derived.Test.YtblkcdenmgkddaaDoorIi
import Derived.Deep.DeepCutAuto
namespace Go.Proofs.YtblkcdenmgkddaaDoor
open Go.RowKit

def someF (xs : List Int) : Bool := xs.any fun x => x != 0
def lowF (xs : List Int) : Bool := xs.all fun x => x == 0 || x == -9223372036854775808
def allF (d : Int) (xs : List Int) : Bool := xs.all fun x => d != 0 && x.tmod d == 0

theorem someF_cons (x : Int) (xs : List Int) : someF (x :: xs) = (x != 0 || someF xs) := rfl
theorem lowF_cons (x : Int) (xs : List Int) : lowF (x :: xs) = ((x == 0 || x == -9223372036854775808) && lowF xs) := rfl
theorem allF_cons (d x : Int) (xs : List Int) : allF d (x :: xs) = ((d != 0 && x.tmod d == 0) && allF d xs) := rfl

end Go.Proofs.YtblkcdenmgkddaaDoor
