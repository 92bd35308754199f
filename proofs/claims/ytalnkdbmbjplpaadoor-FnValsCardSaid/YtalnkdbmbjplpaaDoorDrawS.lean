/- Walks over the reference's draws: the cursor over a draw's bytes. The contracts say only what a drawn number lies between. -/
import Derived.Test.YtalnkdbmbjplpaaDoorDrawI
namespace Go.Proofs.YtalnkdbmbjplpaaDoor
open Go.RowKit

set_option maxHeartbeats 1000000 in
theorem dBytes (B g : Nat) (n : Int) (w : World) (hc : Cur B w g) (h0 : 0 ≤ n) (hn : n ≤ 1000) :
    Calls Tryd.prog 36 #[.pointer (some ⟨g, 0, none⟩), .int .i64 n] w fun e w' => RetB (fun zs => (zs.length : Int) = n) w e w' ∧ Cur B w' g ∧ w.grownBy w' (some g) := by
  have hgl := hc.lt
  obtain ⟨i0, hi, hz0, hz1, hz2⟩ := info_parts info_u8
  go_enter Tryd.func36, Tryd.ntmps36
  go_wp2_with fail
  go_loopw [5, 6] (fun v i wr => ∃ zs : List Int, (zs.length : Int) ≤ n ∧ i = .int .i64 zs.length ∧ Byt zs ∧ wr.ownsRow w.heap.size 5 1 v zs.length (u8s zs) ∧ Cur B wr g ∧ w.grownBy wr (some g)) (fun _ i _ => n.toNat - (intOf i).toNat)
  case atStart => exact ⟨[], h0, rfl, (fun _ h => by cases h), World.ownsRow_made w #[] 0 (Nat.le_refl _) (by simp [maxLen]) (by simp), hc.alloc _, gr_alloc (gr_refl _ _) _⟩
  case round =>
    obtain ⟨zs, hk, rfl, hZ, hO, hC, hG⟩ := hrel
    by_cases hlt : (zs.length : Int) < n
    · go_wp2_with fail
      refine (dByte B g _ hC).mono ?_; rintro e w1 ⟨⟨x, rfl, hx0, hx1⟩, hc1, hg1⟩
      have hO1 := own_gr hO hg1 hgl
      have hG1 := gr_trans hG hg1
      go_wp2_with (at_builtin; refine wpList_push rfl _ _ 22 rfl w.heap.size 5 i0 (.int .u8 0) 1 1 Tryd.underlying22 hi hz0 hz1 hz2 rfl (by decide) _ _ _ rfl hO1 _ rfl rfl rfl (by omega) (by omega) hG1.size ?_)
      intro v' w2 hO2 hg2
      go_wp2_with fail
      go_roundw
      case rel =>
        refine ⟨zs ++ [x], by simp; omega, by simp, hZ.snoc hx0 hx1, by rw [← u8s_snoc, List.length_append]; exact hO2, ?_, ?_⟩
        · exact hc1.far hg2 (fun k e => by
            have := (hO1.lt k e).1
            obtain ⟨_, _, _, _, _, _, _, hBg, _⟩ := hc
            omega)
        · exact ⟨hg2.os.trans hG1.os, hg2.tape.trans hG1.tape, hg2.output.trans hG1.output, Nat.le_trans hG1.size hg2.size, fun i hi hne => (hg2.block i (Nat.lt_of_lt_of_le hi hG1.size) (fun e => by have := (hO1.lt i e.symm).1; omega)).trans (hG1.block i hi hne)⟩
      case measure => simp [intOf]; omega
    · obtain rfl : n = zs.length := by omega
      go_wp2_with fail
      go_ret
      exact ⟨⟨_, zs, rfl, rfl, hZ, Row.mk hO⟩, hC, hG⟩

set_option maxHeartbeats 1000000 in
theorem dSome (B g : Nat) (w : World) (hc : Cur B w g) :
    Calls Tryd.prog 16 #[.pointer (some ⟨g, 0, none⟩)] w fun e w' => RetB (fun zs => zs.length ≤ 9) w e w' ∧ Cur B w' g ∧ w.grownBy w' (some g) := by
  have hgl := hc.lt
  go_enter Tryd.func16, Tryd.ntmps16
  go_wp2_with fail
  refine (dInt B g w.heap.size 5 [0, 1, 2, 5, 9] _ (hc.alloc _) rfl (by omega) (by omega) (Blk.new w _ _) (by omega)).mono ?_; rintro e w1 ⟨⟨x, rfl, hx⟩, hc1, hg1⟩
  have hx0 : 0 ≤ x ∧ x ≤ 9 := by simp at hx; omega
  clear hx
  go_wp2_with fail
  refine (dBytes B g x _ hc1 hx0.1 (by omega)).mono ?_; rintro e w2 ⟨⟨v, zs, rfl, hl, hZ, hO, _⟩, hc2, hg2⟩
  go_wp2_with fail
  go_ret
  have hs := (gr_trans (gr_alloc (gr_refl w (some g)) _) hg1)
  exact ⟨⟨v, zs, rfl, by omega, hZ, Row.mk (own_base hO hs.size)⟩, hc2, gr_trans hs hg2⟩

end Go.Proofs.YtalnkdbmbjplpaaDoor
