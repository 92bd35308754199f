/- Walk over the laws' markNodeS and markNfa. -/
import Derived.Test.YtnoekbgmhnhneaaNfaB
import Derived.Test.YtnoekbgmhnhneaaMarkText
namespace Go.Proofs.Ytnoekbgmhnhneaa
open Go.RowKit

set_option maxRecDepth 20000 in
set_option maxHeartbeats 2000000 in
theorem markNodeS_any (lo hi : Nat) (A : Option Addr) (c : Nat) (zs : List (Int × ByteArray × Int × Int)) (w : World) (hO : Row w lo hi 76 4 (.slice A zs.length c) zs.length (flat nodeC zs)) (hn : zs.length ≤ 1048576) :
    Calls Try.prog 48 #[.slice A zs.length c, .int .i64 1] w fun e w' => e = .returned (.int .i64 ((1 + 4 * zs.length : Nat) : Int)) ∧ w.grownBy w' (Value.slice A zs.length c).ownBlock := by
  have hn' : (zs.length : Int) ≤ 1048576 := by omega
  go_enter Try.func48, Try.ntmps48
  go_wp2_with fail
  go_loopw [1, 5] (fun kv i wr => ∃ (k : Nat) (ys : List (Int × ByteArray × Int × Int)), k ≤ zs.length ∧ i = .int .i64 k ∧ kv = .int .i64 (1 + 4 * (k : Int)) ∧ Hid (zs.length = ys.length) ∧ Row wr lo hi 76 4 (.slice A zs.length c) zs.length (flat nodeC ys) ∧ w.grownBy wr (Value.slice A zs.length c).ownBlock) (fun _ i _ => zs.length - (intOf i).toNat)
  case atStart => exact ⟨0, zs, Nat.zero_le _, rfl, rfl, Lib.hid rfl, hO, gr_refl _ _⟩
  case round =>
    clear hO
    obtain ⟨k, ys, hk, rfl, rfl, hyl, hOr, hLr⟩ := hrel
    by_cases hlt : k < zs.length
    · have hlt' : (k : Int) < (zs.length : Int) := by omega
      obtain ⟨g, rfl, hg1, hg2⟩ := own_blk hOr.1 (by omega)
      have hul : k < ys.length := by have := hyl.out; omega
      have hcg := fun c hc => flat_get nodeC_len ys k hul c hc
      have hbw : g < wr.heap.size := (hOr.1.lt g rfl).2
      have cc0 := hOr.1.cellAt (k * 4) (by omega)
      have h0 := hcg 0 (by omega)
      rw [Nat.add_zero] at h0
      rw [h0] at cc0
      have f0 := hOr.1.frozenAt (k * 4)
      have CM := markText_any (2 + 4 * k) (wr.setCell ⟨g, k * 4, none⟩ (.int .i64 (1 + 4 * (k : Int)))) (by omega)
      generalize mtS (2 + 4 * k) = z at CM
      rw [show ((2 + 4 * k : Nat) : Int) = 1 + 4 * (k : Int) + 1 by omega] at CM
      have CMM := Lib.hid CM
      clear CM h0
      have S0 := (hOr.1.stored (k * 4) (.int .i64 (1 + 4 * (k : Int)))).1
      have L0 := gr_set (g := g) (p := ⟨g, k * 4, none⟩) hLr (.inl rfl) (.int .i64 (1 + 4 * (k : Int)))
      have hr2 := hOr.2
      have hsz : (wr.setCell ⟨g, k * 4, none⟩ (.int .i64 (1 + 4 * (k : Int)))).heap.size = wr.heap.size := by simp
      go_wp2_with fail
      clear cc0 f0 hOr
      generalize wr.setCell ⟨g, k * 4, none⟩ (.int .i64 (1 + 4 * (k : Int))) = x1 at S0 L0 hsz CMM ⊢
      refine CMM.out.mono ?_; rintro e w2 ⟨rfl, b2⟩
      have hO2 : w2.ownsRow _ _ _ _ _ _ := ((Row.mk S0).keep b2).1
      have hs2 : (flat nodeC ys).length = zs.length * 4 := by rw [flat_len nodeC_len, hyl.out]
      have cc1 := hO2.cellAt (k * 4 + 1) (by omega)
      have cc2 := hO2.cellAt (k * 4 + 2) (by omega)
      have cc3 := hO2.cellAt (k * 4 + 3) (by omega)
      rw [List.getElem?_set, if_neg (by omega), hcg 1 (by omega)] at cc1
      rw [List.getElem?_set, if_neg (by omega), hcg 2 (by omega)] at cc2
      rw [List.getElem?_set, if_neg (by omega), hcg 3 (by omega)] at cc3
      have f1 := hO2.frozenAt (k * 4 + 1)
      have f2 := hO2.frozenAt (k * 4 + 2)
      have f3 := hO2.frozenAt (k * 4 + 3)
      have hS := (((hO2.stored (k * 4 + 1) (.string z)).1.stored (k * 4 + 2) (.int .i64 (1 + 4 * (k : Int) + 1 + 1))).1.stored (k * 4 + 3) (.int .i64 (1 + 4 * (k : Int) + 1 + 1 + 1))).1
      rw [flat_set4 nodeC_len (1 + 4 * (k : Int), z, 1 + 4 * (k : Int) + 1 + 1, 1 + 4 * (k : Int) + 1 + 1 + 1) rfl _ k hul] at hS
      have HS := Lib.hid hS
      clear hS hcg S0 hs2 hO2
      have L2 := gr_below L0 b2
      generalize ys[k] = y at *
      obtain ⟨yy0, yy1, yy2, yy3⟩ := y
      simp only [nodeC] at cc1 cc2 cc3
      simp only [List.getElem?_cons_succ, List.getElem?_cons_zero] at cc1 cc2 cc3
      have HL := Lib.hid (show (ys.set k (1 + 4 * (k : Int), z, 1 + 4 * (k : Int) + 1 + 1, 1 + 4 * (k : Int) + 1 + 1 + 1)).length = zs.length by rw [List.length_set, hyl.out])
      go_wp2_with fail
      go_roundw
      case rel => exact ⟨k + 1, _, by omega, by go_num, by congr 1 <;> omega, Lib.hid HL.out.symm, ⟨HS.out, hr2⟩, gr_set (gr_set (gr_set L2 (.inl rfl) _) (.inl rfl) _) (.inl rfl) _⟩
      case measure => (simp [intOf] <;> omega)
    · obtain rfl : k = zs.length := by omega
      go_wp2_with fail
      go_ret
      exact ⟨by congr 2, hLr⟩
set_option maxHeartbeats 1000000 in
theorem markNfa_any (lo hi : Nat) (A : Option Addr) (c : Nat) (zs : List (Int × ByteArray × Int × Int)) (w : World) (hO : Row w lo hi 76 4 (.slice A zs.length c) zs.length (flat nodeC zs)) (hn : zs.length ≤ 1048576) :
    Calls Try.prog 16 #[.agg #[.slice A zs.length c], .int .i64 1] w fun e w' => e = .returned (.int .i64 ((1 + 4 * zs.length : Nat) : Int)) ∧ w.grownBy w' (Value.slice A zs.length c).ownBlock := by
  have L0 := bl_alloc (Below.refl w.heap.size w) (.cells #[.slice A zs.length c] 30)
  have C := Lib.hid (markNodeS_any lo hi A c zs _ (hO.keep L0) hn)
  go_enter Try.func16, Try.ntmps16
  go_wp2_with fail
  refine C.out.mono ?_; rintro e w1 ⟨rfl, b1⟩
  go_wp2_with fail
  go_ret
  exact ⟨rfl, gr_trans (gr_below (gr_refl w _) L0) b1⟩

end Go.Proofs.Ytnoekbgmhnhneaa
