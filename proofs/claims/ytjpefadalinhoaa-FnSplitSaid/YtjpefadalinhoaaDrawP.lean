/- Walks over the reference's draws of texts: l4Text, DrawUpperOf. -/
import Derived.Test.YtjpefadalinhoaaDrawR
import Derived.Test.YtjpefadalinhoaaBig
namespace Go.Proofs.Ytjpefadalinhoaa
open Go.RowKit

set_option maxHeartbeats 1000000 in
theorem dText (B g : Nat) (w : World) (hc : Cur B w g) :
    Calls Try.prog 57 #[.pointer (some ⟨g, 0, none⟩)] w fun e w' => RetS (fun s => s.size ≤ 6) e ∧ Cur B w' g ∧ w.grownBy w' (some g) := by
  go_enter Try.func57, Try.ntmps57
  go_wp2_with fail
  refine (dBelow B g 7 _ hc (by omega)).mono ?_; rintro e w1 ⟨⟨x, rfl, hx0, hx1, _⟩, hc1, hg1⟩
  have hx2 := hx1 (by omega)
  clear hx1
  obtain ⟨m, rfl⟩ := Int.eq_ofNat_of_zero_le hx0
  go_wp2_with fail
  go_loopw [3, 4] (fun sv i wr => ∃ (k : Nat) (s : ByteArray), s.size + k ≤ 6 ∧ i = .int .i64 k ∧ sv = .string s ∧ Cur B wr g ∧ w.grownBy wr (some g)) (fun _ i _ => (intOf i).toNat)
  case atStart => exact ⟨m, ByteArray.empty, by simp; omega, rfl, rfl, hc1, hg1⟩
  case round =>
    obtain ⟨k, s, hk, rfl, rfl, hC, hG⟩ := hrel
    by_cases h0 : 0 < k
    · obtain ⟨k, rfl⟩ : ∃ j, k = j + 1 := ⟨k - 1, by omega⟩
      go_wp2_with fail
      refine (dStr B g wr.heap.size 6 [⟨#[97]⟩, ⟨#[98]⟩, ⟨#[99]⟩, ⟨#[49]⟩, ⟨#[97]⟩, ⟨#[32]⟩] _ (hC.alloc _) rfl (by omega) (by omega) (Blk.new wr _ _) (by have := hC.lt; omega)).mono ?_; rintro e w2 ⟨⟨z, rfl, hz⟩, hc2, hg2⟩
      have hz1 : z.size ≤ 1 := (show ∀ z ∈ ([⟨#[97]⟩, ⟨#[98]⟩, ⟨#[99]⟩, ⟨#[49]⟩, ⟨#[97]⟩, ⟨#[32]⟩] : List ByteArray), z.size ≤ 1 by decide) z hz
      clear hz
      go_wp2_with fail
      go_roundw
      case rel => exact ⟨k, s ++ z, by rw [ba_append_size]; omega, by first | rfl | (congr 1; omega), rfl, hc2, gr_trans (gr_alloc hG _) hg2⟩
      case measure => simp [intOf]
    · go_wp2_with fail
      go_ret
      exact ⟨⟨s, rfl, by omega⟩, hC, hG⟩

set_option maxHeartbeats 1000000 in
theorem dUpper (A : Option Addr) (n c : Nat) (zs : List Int) (w : World) (hR : Reads w w.heap.size 1 A n (u8s zs)) (hZ : Byt zs) (hn : n ≤ 1048576) :
    Calls Try.prog 38 #[.slice A n c] w fun e w' => RetS (fun s => s.size ≤ 7) e ∧ Below w.heap.size w w' := by
  go_enter Try.func38, Try.ntmps38
  go_wp2_with fail
  refine (dNew w.heap.size n c A zs w hR hZ (Nat.le_refl _) hn).mono ?_; rintro e w1 ⟨g, rfl, hc1, hg, b1⟩
  have s1 := b1.size
  go_wp2_with fail
  refine (dText w.heap.size g _ hc1).mono ?_; rintro e w2 ⟨⟨s, rfl, hs⟩, hc2, g2⟩
  have s2 := g2.size
  go_wp2_with fail
  refine (dStr w.heap.size g w2.heap.size 6 [⟨#[]⟩, ⟨#[90]⟩, ⟨#[127]⟩, ⟨#[122]⟩, ⟨#[96]⟩, ⟨#[123]⟩] _ (hc2.alloc _) rfl (by omega) (by omega) (Blk.new w2 _ _) (by have := hc2.lt; omega)).mono ?_; rintro e w3 ⟨⟨z, rfl, hz⟩, hc3, g3⟩
  have hz1 : z.size ≤ 1 := (show ∀ z ∈ ([⟨#[]⟩, ⟨#[90]⟩, ⟨#[127]⟩, ⟨#[122]⟩, ⟨#[96]⟩, ⟨#[123]⟩] : List ByteArray), z.size ≤ 1 by decide) z hz
  clear hz
  go_wp2_with fail
  go_ret
  exact ⟨⟨s ++ z, rfl, by show (s ++ z).size ≤ 7; rw [ba_append_size]; omega⟩, bl_gr (bl_gr b1 g2 (fun k e => by cases e; exact hg)) (gr_trans (gr_alloc (gr_refl w2 (some g)) _) g3) (fun k e => by cases e; exact hg)⟩


end Go.Proofs.Ytjpefadalinhoaa
