/- Walk over the program's IndexOf. A text's length is at most 1048576; the library's own variable holds some number. -/
import Derived.Test.YtjpefadalinhoaaIndex
import Derived.Test.YtjpefadalinhoaaShelf
import Derived.Lib.IndexBytes
namespace Go.Proofs.Ytjpefadalinhoaa
open Go.RowKit

theorem gMax : (Try.prog.globals.findIdx? (·.name == "internal/bytealg.MaxLen")) = some 0 := by kernel_rfl
/-- The library's own variable holds some number. -/
def MaxCell (m : Int) (w : World) : Prop := w.cell? ⟨0, 0, none⟩ = some (.int .i64 m)
theorem MaxCell.keep {m : Int} {w w' : World} (h : MaxCell m w) (hb : Below w.heap.size w w') : MaxCell m w' := (hb.cell (by
  show 0 < w.heap.size
  rcases Nat.lt_or_ge 0 w.heap.size with h' | h'
  · exact h'
  · unfold MaxCell at h; simp [World.cell?, Array.getElem?_eq_none h'] at h)).trans h
theorem max_of_shaped {w : World} (h : w.ShapedOpen Try.prog) : ∃ m, MaxCell m w := LaysM.n143.s1_3 Try.laysM143 w h

set_option maxHeartbeats 400000 in
theorem iIndexOf (s t : ByteArray) (m : Int) (w : World) (hm : MaxCell m w) (hs : s.size ≤ 1048576) :
    Calls Try.prog 20 #[.string s, .string t] w fun e w' => e = .returned (.int .i64 (Lib.index s.data.toList t.data.toList + 1)) ∧ w' = w := by
  have hb : Lib.index s.data.toList t.data.toList ≤ 1048576 ∧ -1 ≤ Lib.index s.data.toList t.data.toList := by
    have := Lib.index_le s.data.toList t.data.toList
    rw [← Lib.size_eq] at this
    exact ⟨by omega, Lib.index_ge _ _⟩
  have C := Try.strings_Index s t m w (by omega) hm
  generalize Lib.index s.data.toList t.data.toList = R at hb C ⊢
  have CC := Lib.hid C
  clear C
  go_enter Try.func20, Try.ntmps20
  go_wp2_with fail
  refine CC.out.mono ?_; rintro e w1 ⟨rfl, rfl⟩
  go_wp2_with fail
  go_ret
  exact ⟨rfl, rfl⟩

end Go.Proofs.Ytjpefadalinhoaa
