/- Walks over the reference's l1Once; the order of texts. -/
import Derived.Test.YtkahlckjedaolaaDoorDrawA
namespace Go.Proofs.YtkahlckjedaolaaDoor
open Go.RowKit

set_option maxHeartbeats 400000 in
theorem dOnce (B g : Nat) (n : Int) (w : World) (hc : Cur B w g) (hn : n ≤ 16777216) :
    Calls Tryd.prog 53 #[.pointer (some ⟨g, 0, none⟩), .int .i64 n] w fun e w' => (∃ b : Bool, e = .returned (.bool b)) ∧ Cur B w' g ∧ w.grownBy w' (some g) := by
  go_enter Tryd.func53, Tryd.ntmps53
  go_wp2_with fail
  refine (dBelow B g n _ hc hn).mono ?_; rintro e w1 ⟨⟨x, rfl, _⟩, hc1, hg1⟩
  go_wp2_with fail
  go_ret
  exact ⟨⟨_, rfl⟩, hc1, hg1⟩

end Go.Proofs.YtkahlckjedaolaaDoor
