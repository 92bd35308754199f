/- Rows of texts. No condition. -/
import Derived.Test.YtjpefadalinhoaaDoorMem
namespace Go.Proofs.YtjpefadalinhoaaDoor
open Go.RowKit

/-- The cells of a row of texts. -/
def strs (xs : List ByteArray) : Array Value := (xs.map Value.string).toArray
theorem strs_at {w : World} {b : Nat} {xs : List ByteArray} (h : Blk w b 9 (strs xs)) {k : Nat} (hk : k < xs.length) : w.cell? ⟨b, k, none⟩ = some (.string xs[k]) := by
  have := h.cell k
  unfold strs at this
  rw [List.getElem?_toArray, List.getElem?_map, List.getElem?_eq_getElem hk] at this
  exact this

end Go.Proofs.YtjpefadalinhoaaDoor
