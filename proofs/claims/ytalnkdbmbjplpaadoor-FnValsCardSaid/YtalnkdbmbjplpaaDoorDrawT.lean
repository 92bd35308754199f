/- Walks over DrawPutText of the reference, and over the laws' sameBytes at bytes that are the same. -/
import Derived.Test.YtalnkdbmbjplpaaDoorDrawN
import Derived.Test.YtalnkdbmbjplpaaDoorNumBack
import Derived.Deep.RegionWith
namespace Go.Proofs.YtalnkdbmbjplpaaDoor
open Go.RowKit

/-- Bytes of the call's own, and a text. -/
def RetBT (R : List Int → ByteArray → Prop) (w : World) (e : Ending) (w' : World) : Prop := ∃ (v : Value) (zs : List Int) (s : ByteArray), e = .returned (.tuple #[v, .string s]) ∧ R zs s ∧ Byt zs ∧ Row w' w.heap.size w'.heap.size 5 1 v zs.length (u8s zs)
theorem bStr_size (zs : List Int) : (bStr zs).size = zs.length := by unfold bStr; simp [ByteArray.size]
set_option maxHeartbeats 1000000 in
theorem sameB_eq (A A' : Option Addr) (n n' c c' : Nat) (zs : List Int) (w : World) (hR : Reads w w.heap.size 1 A n (u8s zs)) (hR' : Reads w w.heap.size 1 A' n' (u8s zs)) (hl : zs.length = n) (hl' : zs.length = n') (hn : n ≤ 1073741824) :
    Calls Tryd.prog 13 #[.slice A n c, .slice A' n' c'] w fun e w' => e = .returned (.bool true) ∧ Below w.heap.size w w' := by
  subst hl hl'
  have hn' : (zs.length : Int) ≤ 1073741824 := by omega
  go_enter Tryd.func13, Tryd.ntmps13
  go_wp2_with fail
  go_loopw [5] (fun i wr => ∃ k : Nat, k ≤ zs.length ∧ i = .int .i64 k ∧ Below w.heap.size w wr) (fun i _ => zs.length - (intOf i).toNat)
  case atStart => exact ⟨0, Nat.zero_le _, rfl, Below.refl _ _⟩
  case round =>
    obtain ⟨k, hk, rfl, hL⟩ := hrel
    by_cases hlt : k < zs.length
    · obtain ⟨b, off, rfl, hb, hcell⟩ := rd_at (hR.below hL) hlt
      obtain ⟨b', off', rfl, hb', hcell'⟩ := rd_at (hR'.below hL) hlt
      have hlt' : (k : Int) < (zs.length : Int) := by omega
      generalize zs[k] = z at *
      go_wp2_with fail
      go_quiet (fail)
      go_wp2_with fail
      go_roundw
      case rel => exact ⟨k + 1, by omega, by go_num, bl_drewN hL _⟩
      case measure => simp [intOf]; omega
    · obtain rfl : k = zs.length := by omega
      go_wp2_with fail
      go_ret
      exact ⟨rfl, hL⟩

end Go.Proofs.YtalnkdbmbjplpaaDoor
