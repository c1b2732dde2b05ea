/-
  The walk of ints.divisor: the greatest common divisor by halves.
-/
import Derived.Test.YtfielhbepnkekaaIb
import Derived.Test.YtfielhbepnkekaaIp
namespace Go.Proofs.Ytfielhbepnkekaa
open Go.RowKit

theorem retu {a b : Int} (h : a = b) : Ending.returned (.int .u64 a) = .returned (.int .u64 b) := by rw [h]



end Go.Proofs.Ytfielhbepnkekaa
