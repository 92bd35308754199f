/- Walks over the reference's draws: the cursor over a draw's bytes. The contracts say only what a drawn number lies between. -/
import Derived.Test.YtalnkdbmbjplpaaDoorDrawI
namespace Go.Proofs.YtalnkdbmbjplpaaDoor
open Go.RowKit

set_option maxHeartbeats 1000000 in
theorem dNum (B g : Nat) (w : World) (hc : Cur B w g) :
    Calls Tryd.prog 37 #[.pointer (some ⟨g, 0, none⟩)] w fun e w' => RetInt (fun z => -9223372036854775808 ≤ z ∧ z ≤ 9223372036854775807) e ∧ Cur B w' g ∧ w.grownBy w' (some g) := by
  go_enter Tryd.func37, Tryd.ntmps37
  go_wp2_with fail
  refine (dBelow B g 100000 _ hc (by omega)).mono ?_; rintro e w1 ⟨⟨x, rfl, hx0, hx1, _⟩, hc1, hg1⟩
  have hx2 := hx1 (by omega)
  clear hx1
  have hgl := hc1.lt
  go_wp2_with fail
  refine (dInt B g w1.heap.size 18 [0, 1, -1, 63, 64, -64, -65, 127, 128, 300, 2147483647, -2147483648, 2147483648, -2147483649, 4294967296, 9223372036854775807, -9223372036854775808, x] _ (hc1.alloc _) rfl (by omega) (by omega) (Blk.new w1 _ _) (by omega)).mono ?_; rintro e w2 ⟨⟨z, rfl, hz⟩, hc2, hg2⟩
  have hz2 : -9223372036854775808 ≤ z ∧ z ≤ 9223372036854775807 := by
    simp only [List.mem_cons, List.not_mem_nil, or_false] at hz
    omega
  clear hz
  go_wp2_with fail
  go_ret
  exact ⟨⟨z, rfl, hz2⟩, hc2, gr_trans (gr_alloc hg1 _) hg2⟩

end Go.Proofs.YtalnkdbmbjplpaaDoor
