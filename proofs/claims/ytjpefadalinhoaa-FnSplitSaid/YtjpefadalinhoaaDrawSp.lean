/- Walks over DrawSplitText, and the laws' sameTexts. -/
import Derived.Test.YtjpefadalinhoaaDrawP
import Derived.Test.YtjpefadalinhoaaStrS
namespace Go.Proofs.Ytjpefadalinhoaa
open Go.RowKit

set_option maxHeartbeats 1000000 in
theorem dSplit (A : Option Addr) (n c : Nat) (zs : List Int) (w : World) (hR : Reads w w.heap.size 1 A n (u8s zs)) (hZ : Byt zs) (hn : n ≤ 1048576) :
    Calls Try.prog 36 #[.slice A n c] w fun e w' => RetS (fun s => s.size ≤ 14) e ∧ Below w.heap.size w w' := by
  go_enter Try.func36, Try.ntmps36
  go_wp2_with fail
  refine (dNew w.heap.size n c A zs w hR hZ (Nat.le_refl _) hn).mono ?_; rintro e w0 ⟨g, rfl, hc0, hg, b0⟩
  go_wp2_with fail
  refine (dBelow w.heap.size g 8 _ hc0 (by omega)).mono ?_; rintro e w1 ⟨⟨x, rfl, hx0, hx1, _⟩, hc1, hg1⟩
  have hx2 := hx1 (by omega)
  clear hx1
  obtain ⟨m, rfl⟩ := Int.eq_ofNat_of_zero_le hx0
  go_wp2_with fail
  go_loopw [4, 5] (fun sv i wr => ∃ (k : Nat) (s : ByteArray), s.size + 2 * k ≤ 14 ∧ i = .int .i64 k ∧ sv = .string s ∧ Cur w.heap.size wr g ∧ w0.grownBy wr (some g)) (fun _ i _ => (intOf i).toNat)
  case atStart => exact ⟨m, ByteArray.empty, by simp; omega, rfl, rfl, hc1, hg1⟩
  case round =>
    obtain ⟨k, s, hk, rfl, rfl, hC, hG⟩ := hrel
    by_cases h0 : 0 < k
    · obtain ⟨k, rfl⟩ : ∃ j, k = j + 1 := ⟨k - 1, by omega⟩
      go_wp2_with fail
      refine (dStr w.heap.size g wr.heap.size 6 [⟨#[97]⟩, ⟨#[98, 99]⟩, ⟨#[32]⟩, ⟨#[32, 32]⟩, ⟨#[9]⟩, ⟨#[49]⟩] _ (hC.alloc _) rfl (by omega) (by omega) (Blk.new wr _ _) (by have := hC.lt; omega)).mono ?_; rintro e w2 ⟨⟨z, rfl, hz⟩, hc2, hg2⟩
      have hz1 : z.size ≤ 2 := (show ∀ z ∈ ([⟨#[97]⟩, ⟨#[98, 99]⟩, ⟨#[32]⟩, ⟨#[32, 32]⟩, ⟨#[9]⟩, ⟨#[49]⟩] : List ByteArray), z.size ≤ 2 by decide) z hz
      clear hz
      go_wp2_with fail
      go_roundw
      case rel => exact ⟨k, s ++ z, by rw [ba_append_size]; omega, by first | rfl | (congr 1; omega), rfl, hc2, gr_trans (gr_alloc hG _) hg2⟩
      case measure => simp [intOf]
    · go_wp2_with fail
      go_ret
      exact ⟨⟨s, rfl, by omega⟩, bl_gr b0 hG (fun k e => by cases e; exact hg)⟩

set_option maxHeartbeats 1000000 in
theorem sameT_any (A A' : Option Addr) (c c' : Nat) (zs : List ByteArray) (w : World) (hR : Reads w w.heap.size 1 A zs.length (sVs zs)) (hR' : Reads w w.heap.size 1 A' zs.length (sVs zs)) (hn : zs.length ≤ 1073741824) :
    Calls Try.prog 37 #[.slice A zs.length c, .slice A' zs.length c'] w fun e w' => e = .returned (.bool true) ∧ Below w.heap.size w w' := by
  have hn' : (zs.length : Int) ≤ 1073741824 := by omega
  go_enter Try.func37, Try.ntmps37
  go_wp2_with fail
  go_loopw [5] (fun i wr => ∃ k : Nat, k ≤ zs.length ∧ i = .int .i64 k ∧ Below w.heap.size w wr) (fun i _ => zs.length - (intOf i).toNat)
  case atStart => exact ⟨0, Nat.zero_le _, rfl, Below.refl _ _⟩
  case round =>
    obtain ⟨k, hk, rfl, hL⟩ := hrel
    by_cases hlt : k < zs.length
    · obtain ⟨b, off, rfl, hb, hcell⟩ := rd_atS (hR.below hL) hlt
      obtain ⟨b', off', rfl, hb', hcell'⟩ := rd_atS (hR'.below hL) hlt
      have hlt' : (k : Int) < (zs.length : Int) := by omega
      generalize zs[k] = z at *
      go_wp2_with fail
      go_quiet (fail)
      go_wp2_with fail
      go_roundw
      case rel => exact ⟨k + 1, by omega, by go_num, bl_drewN hL _⟩
      case measure => simp [intOf]; omega
    · obtain rfl : k = zs.length := by omega
      go_wp2_with fail
      go_ret
      exact ⟨rfl, hL⟩

end Go.Proofs.Ytjpefadalinhoaa
