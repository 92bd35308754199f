/- Walks over Truth, the program's and the reference's. No condition. -/
import Derived.Test.YtalnkdbmbjplpaaDoorVal
namespace Go.Proofs.YtalnkdbmbjplpaaDoor
open Go.RowKit

/-- What Truth gives. -/
def vTruth (k n : Int) (s : ByteArray) : Bool := if k = 2 then !decide (s.toList = []) else !decide (n = 0)

end Go.Proofs.YtalnkdbmbjplpaaDoor
