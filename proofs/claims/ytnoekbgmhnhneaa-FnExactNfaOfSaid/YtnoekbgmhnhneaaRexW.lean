/- The weight of a regular expression's label. -/
import Derived.Test.YtnoekbgmhnhneaaRexB
namespace Go.Proofs.Ytnoekbgmhnhneaa
open Go.RowKit

/-- The bytes of a label. -/
def gRex (a : (Int × ByteArray)) : Nat := a.2.size
/-- A label's text is not too long. -/
def qRex (a : (Int × ByteArray)) : Prop := a.2.size ≤ 9223372036854775807

end Go.Proofs.Ytnoekbgmhnhneaa
