/- Walks over DrawGetU, DrawGetS, DrawPutText of the reference. At most 1048576 bytes are drawn from. -/
import Derived.Test.YtalnkdbmbjplpaaDoorDrawW
import Derived.Test.YtalnkdbmbjplpaaDoorNumU
import Derived.Test.YtalnkdbmbjplpaaDoorNumS
import Derived.Test.YtalnkdbmbjplpaaDoorGetT
import Derived.Test.YtalnkdbmbjplpaaDoorNumLaw
import Derived.Test.YtalnkdbmbjplpaaDoorPutT
namespace Go.Proofs.YtalnkdbmbjplpaaDoor
open Go.RowKit

theorem u8s_set (zs : List Int) (k : Nat) (z : Int) : u8s (zs.set k z) = (u8s zs).set k (.int .u8 z) := by unfold u8s; rw [List.map_set]
theorem byt_set {zs : List Int} (h : Byt zs) (k : Nat) {z : Int} (hz : 0 ≤ z ∧ z < 256) : Byt (zs.set k z) := fun q hq => by
  rcases List.mem_or_eq_of_mem_set hq with h' | rfl
  · exact h q h'
  · exact hz
set_option maxHeartbeats 1000000 in
theorem dAt (B g : Nat) (A : Option Addr) (n c : Nat) (w : World) (hc : Cur B w g) (hn : n ≤ 1000) :
    Calls Tryd.prog 31 #[.pointer (some ⟨g, 0, none⟩), .slice A n c] w fun e w' => RetInt (fun _ => True) e ∧ Cur B w' g ∧ w.grownBy w' (some g) := by
  have hn' : (n : Int) ≤ 1000 := by omega
  go_enter Tryd.func31, Tryd.ntmps31
  go_wp2_with fail
  refine (dBelow B g _ _ hc (by omega)).mono ?_; rintro e w1 ⟨⟨x, rfl, hx0, _, _⟩, hc1, hg1⟩
  have hgl := hc1.lt
  go_wp2_with fail
  refine (dInt B g w1.heap.size 7 [0, 0, 0, (n : Int), x, -1, 9223372036854775807] _ (hc1.alloc _) rfl (by omega) (by omega) (Blk.new w1 _ _) (by omega)).mono ?_; rintro e w2 ⟨⟨z, rfl, _⟩, hc2, hg2⟩
  go_wp2_with fail
  go_ret
  exact ⟨⟨z, rfl, trivial⟩, hc2, gr_trans (gr_alloc hg1 _) hg2⟩

end Go.Proofs.YtalnkdbmbjplpaaDoor
