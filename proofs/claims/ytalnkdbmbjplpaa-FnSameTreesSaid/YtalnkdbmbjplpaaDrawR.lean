/- Walks over the reference's draws of texts: l1Str. -/
import Derived.Test.YtalnkdbmbjplpaaDrawI
import Derived.Deep.RegionWith
namespace Go.Proofs.Ytalnkdbmbjplpaa
open Go.RowKit

/-- It hands back a text of which R holds. -/
def RetS (R : ByteArray → Prop) (e : Ending) : Prop := ∃ s : ByteArray, e = .returned (.string s) ∧ R s
theorem ba_append_size (a b : ByteArray) : (a ++ b).size = a.size + b.size := ByteArray.size_append

set_option maxHeartbeats 1000000 in
theorem dStr (B g b : Nat) (n : Nat) (xs : List ByteArray) (w : World) (hc : Cur B w g) (hl : xs.length = n) (hn : 0 < n) (hn2 : n ≤ 1000) (hb : Blk w b 9 (xs.map Value.string).toArray) (hne : b ≠ g) :
    Calls Try.prog 29 #[.pointer (some ⟨g, 0, none⟩), .slice (some ⟨b, 0, none⟩) n n] w fun e w' => RetS (fun z => z ∈ xs) e ∧ Cur B w' g ∧ w.grownBy w' (some g) := by
  go_enter Try.func29, Try.ntmps29
  go_wp2_with fail
  refine (dBelow B g n _ hc (by omega)).mono ?_; rintro e w1 ⟨⟨x, rfl, hx0, hx1, _⟩, hc1, hg1⟩
  have hx2 := hx1 (by omega)
  clear hx1
  obtain ⟨k, rfl⟩ := Int.eq_ofNat_of_zero_le hx0
  have hk : k < xs.length := by omega
  have hcell := (hb.grown hg1 (by simpa using hne)).cell k
  rw [List.getElem?_toArray, List.getElem?_map, List.getElem?_eq_getElem hk, Option.map_some] at hcell
  have hmem := List.getElem_mem hk
  generalize xs[k] = z at *
  go_wp2_with fail
  go_ret
  exact ⟨⟨z, rfl, hmem⟩, hc1, hg1⟩


end Go.Proofs.Ytalnkdbmbjplpaa
