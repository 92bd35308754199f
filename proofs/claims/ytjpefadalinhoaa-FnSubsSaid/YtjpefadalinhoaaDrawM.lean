/- Walks over the reference's draws: the cursor over a draw's bytes. The contracts say only what a drawn number lies between. -/
import Derived.Test.YtjpefadalinhoaaDrawI
namespace Go.Proofs.Ytjpefadalinhoaa
open Go.RowKit

set_option maxHeartbeats 1000000 in
theorem dNum (B g : Nat) (w : World) (hc : Cur B w g) :
    Calls Try.prog 61 #[.pointer (some ⟨g, 0, none⟩)] w fun e w' => RetInt (fun _ => True) e ∧ Cur B w' g ∧ w.grownBy w' (some g) := by
  go_enter Try.func61, Try.ntmps61
  go_wp2_with fail
  refine (dBelow B g 100000 _ hc (by omega)).mono ?_; rintro e w1 ⟨⟨x, rfl, hx0, _, _⟩, hc1, hg1⟩
  have hgl := hc1.lt
  go_wp2_with fail
  refine (dInt B g w1.heap.size 18 [0, 1, -1, 63, 64, -64, -65, 127, 128, 300, 2147483647, -2147483648, 2147483648, -2147483649, 4294967296, 9223372036854775807, -9223372036854775808, x] _ (hc1.alloc _) rfl (by omega) (by omega) (Blk.new w1 _ _) (by omega)).mono ?_; rintro e w2 ⟨⟨z, rfl, _⟩, hc2, hg2⟩
  go_wp2_with fail
  go_ret
  exact ⟨⟨z, rfl, trivial⟩, hc2, gr_trans (gr_alloc hg1 _) hg2⟩

end Go.Proofs.Ytjpefadalinhoaa
