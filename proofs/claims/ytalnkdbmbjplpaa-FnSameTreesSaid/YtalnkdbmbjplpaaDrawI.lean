/- Walks over the reference's draws: the cursor over a draw's bytes. The contracts say only what a drawn number lies between. -/
import Derived.Test.YtalnkdbmbjplpaaDraw0
namespace Go.Proofs.Ytalnkdbmbjplpaa
open Go.RowKit

set_option maxHeartbeats 1000000 in
theorem dInt (B g b : Nat) (n : Nat) (zs : List Int) (w : World) (hc : Cur B w g) (hl : zs.length = n) (hn : 0 < n) (hn2 : n ≤ 1000) (hb : Blk w b 3 (zs.map (Value.int .i64)).toArray) (hne : b ≠ g) :
    Calls Try.prog 30 #[.pointer (some ⟨g, 0, none⟩), .slice (some ⟨b, 0, none⟩) n n] w fun e w' => RetInt (fun z => z ∈ zs) e ∧ Cur B w' g ∧ w.grownBy w' (some g) := by
  go_enter Try.func30, Try.ntmps30
  go_wp2_with fail
  refine (dBelow B g n _ hc (by omega)).mono ?_; rintro e w1 ⟨⟨x, rfl, hx0, hx1, _⟩, hc1, hg1⟩
  have hx2 := hx1 (by omega)
  clear hx1
  obtain ⟨k, rfl⟩ := Int.eq_ofNat_of_zero_le hx0
  have hk : k < zs.length := by omega
  have hcell := (hb.grown hg1 (by simpa using hne)).cell k
  rw [List.getElem?_toArray, List.getElem?_map, List.getElem?_eq_getElem hk, Option.map_some] at hcell
  have hmem := List.getElem_mem hk
  generalize zs[k] = z at *
  go_wp2_with fail
  go_ret
  exact ⟨⟨z, rfl, hmem⟩, hc1, hg1⟩

end Go.Proofs.Ytalnkdbmbjplpaa
