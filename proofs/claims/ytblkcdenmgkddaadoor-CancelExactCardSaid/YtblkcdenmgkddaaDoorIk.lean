/-
  IntsMultiple answers true at every list and every number: the walk, under what the plain law gives.
-/
import Derived.Test.YtblkcdenmgkddaaDoorIj
namespace Go.Proofs.YtblkcdenmgkddaaDoor
open Go.RowKit

def zeroF (xs : List Int) : Bool := xs.any fun x => x == 0
def dvdF (m : Int) (xs : List Int) : Bool := xs.all fun x => x != 0 && m.tmod x == 0
theorem zeroF_cons (x : Int) (xs : List Int) : zeroF (x :: xs) = (x == 0 || zeroF xs) := rfl
theorem dvdF_cons (m x : Int) (xs : List Int) : dvdF m (x :: xs) = ((x != 0 && m.tmod x == 0) && dvdF m xs) := rfl

end Go.Proofs.YtblkcdenmgkddaaDoor
