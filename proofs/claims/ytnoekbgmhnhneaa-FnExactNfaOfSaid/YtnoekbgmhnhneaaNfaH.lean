/- Walks over the laws' markNfa, with what it leaves, and over heldNfa. -/
import Derived.Test.YtnoekbgmhnhneaaNfaM
import Derived.Deep.RegionHeld3
import Derived.Deep.RegionWith
namespace Go.Proofs.Ytnoekbgmhnhneaa
open Go.RowKit

/-- A marked node. -/
def markN (k : Nat) : (Int × ByteArray × Int × Int) := (1 + 4 * (k : Int), mtS (2 + 4 * k), 1 + 4 * (k : Int) + 1 + 1, 1 + 4 * (k : Int) + 1 + 1 + 1)
def markL (n : Nat) : List (Int × ByteArray × Int × Int) := (List.range n).map markN
theorem markL_len (n : Nat) : (markL n).length = n := by simp [markL]
theorem markL_get {n k : Nat} (h : k < n) : (markL n)[k]'(by rw [markL_len]; exact h) = markN k := by simp [markL]

set_option maxRecDepth 20000 in
set_option maxHeartbeats 2000000 in
theorem markNodeM (lo hi : Nat) (A : Option Addr) (c : Nat) (zs : List (Int × ByteArray × Int × Int)) (w : World) (hO : Row w lo hi 76 4 (.slice A zs.length c) zs.length (flat nodeC zs)) (hn : zs.length ≤ 1048576) :
    Calls Try.prog 48 #[.slice A zs.length c, .int .i64 1] w fun e w' => e = .returned (.int .i64 ((1 + 4 * zs.length : Nat) : Int)) ∧ w.grownBy w' (Value.slice A zs.length c).ownBlock ∧ Row w' lo hi 76 4 (.slice A zs.length c) zs.length (flat nodeC (markL zs.length)) := by
  have hn' : (zs.length : Int) ≤ 1048576 := by omega
  go_enter Try.func48, Try.ntmps48
  go_wp2_with fail
  go_loopw [1, 5] (fun kv i wr => ∃ (k : Nat) (ys : List (Int × ByteArray × Int × Int)), k ≤ zs.length ∧ i = .int .i64 k ∧ kv = .int .i64 (1 + 4 * (k : Int)) ∧ Hid (zs.length = ys.length) ∧ Hid (∀ q, q < k → ys[q]? = some (markN q)) ∧ Row wr lo hi 76 4 (.slice A zs.length c) zs.length (flat nodeC ys) ∧ w.grownBy wr (Value.slice A zs.length c).ownBlock) (fun _ i _ => zs.length - (intOf i).toNat)
  case atStart => exact ⟨0, zs, Nat.zero_le _, rfl, rfl, Lib.hid rfl, Lib.hid (fun q h => absurd h (Nat.not_lt_zero _)), hO, gr_refl _ _⟩
  case round =>
    clear hO
    obtain ⟨k, ys, hk, rfl, rfl, hyl, hmk, hOr, hLr⟩ := hrel
    by_cases hlt : k < zs.length
    · have hlt' : (k : Int) < (zs.length : Int) := by omega
      obtain ⟨g, rfl, hg1, hg2⟩ := own_blk hOr.1 (by omega)
      have hul : k < ys.length := by have := hyl.out; omega
      have hcg := fun c hc => flat_get nodeC_len ys k hul c hc
      have hbw : g < wr.heap.size := (hOr.1.lt g rfl).2
      have cc0 := hOr.1.cellAt (k * 4) (by omega)
      have h0 := hcg 0 (by omega)
      rw [Nat.add_zero] at h0
      rw [h0] at cc0
      have f0 := hOr.1.frozenAt (k * 4)
      have CM := markText_any (2 + 4 * k) (wr.setCell ⟨g, k * 4, none⟩ (.int .i64 (1 + 4 * (k : Int)))) (by omega)
      obtain ⟨z, hz⟩ : ∃ z, mtS (2 + 4 * k) = z := ⟨_, rfl⟩
      rw [hz] at CM
      have HZ := Lib.hid hz
      clear hz
      rw [show ((2 + 4 * k : Nat) : Int) = 1 + 4 * (k : Int) + 1 by omega] at CM
      have CMM := Lib.hid CM
      clear CM h0
      have S0 := (hOr.1.stored (k * 4) (.int .i64 (1 + 4 * (k : Int)))).1
      have L0 := gr_set (g := g) (p := ⟨g, k * 4, none⟩) hLr (.inl rfl) (.int .i64 (1 + 4 * (k : Int)))
      have hr2 := hOr.2
      have hsz : (wr.setCell ⟨g, k * 4, none⟩ (.int .i64 (1 + 4 * (k : Int)))).heap.size = wr.heap.size := by simp
      go_wp2_with fail
      clear cc0 f0 hOr
      generalize wr.setCell ⟨g, k * 4, none⟩ (.int .i64 (1 + 4 * (k : Int))) = x1 at S0 L0 hsz CMM ⊢
      refine CMM.out.mono ?_; rintro e w2 ⟨rfl, b2⟩
      have hO2 : w2.ownsRow _ _ _ _ _ _ := ((Row.mk S0).keep b2).1
      have hs2 : (flat nodeC ys).length = zs.length * 4 := by rw [flat_len nodeC_len, hyl.out]
      have cc1 := hO2.cellAt (k * 4 + 1) (by omega)
      have cc2 := hO2.cellAt (k * 4 + 2) (by omega)
      have cc3 := hO2.cellAt (k * 4 + 3) (by omega)
      rw [List.getElem?_set, if_neg (by omega), hcg 1 (by omega)] at cc1
      rw [List.getElem?_set, if_neg (by omega), hcg 2 (by omega)] at cc2
      rw [List.getElem?_set, if_neg (by omega), hcg 3 (by omega)] at cc3
      have f1 := hO2.frozenAt (k * 4 + 1)
      have f2 := hO2.frozenAt (k * 4 + 2)
      have f3 := hO2.frozenAt (k * 4 + 3)
      have hS := (((hO2.stored (k * 4 + 1) (.string z)).1.stored (k * 4 + 2) (.int .i64 (1 + 4 * (k : Int) + 1 + 1))).1.stored (k * 4 + 3) (.int .i64 (1 + 4 * (k : Int) + 1 + 1 + 1))).1
      rw [flat_set4 nodeC_len (1 + 4 * (k : Int), z, 1 + 4 * (k : Int) + 1 + 1, 1 + 4 * (k : Int) + 1 + 1 + 1) rfl _ k hul] at hS
      have HS := Lib.hid hS
      clear hS hcg S0 hs2 hO2
      have L2 := gr_below L0 b2
      have HMK := Lib.hid (show ∀ q, q < k + 1 → (ys.set k (1 + 4 * (k : Int), z, 1 + 4 * (k : Int) + 1 + 1, 1 + 4 * (k : Int) + 1 + 1 + 1))[q]? = some (markN q) from fun q hq => by
        by_cases e : k = q
        · subst e
          rw [List.getElem?_set_self hul]
          unfold markN
          rw [HZ.out]
        · rw [List.getElem?_set_ne e]
          exact hmk.out q (by omega))
      generalize ys[k] = y at *
      obtain ⟨yy0, yy1, yy2, yy3⟩ := y
      simp only [nodeC] at cc1 cc2 cc3
      simp only [List.getElem?_cons_succ, List.getElem?_cons_zero] at cc1 cc2 cc3
      have HL := Lib.hid (show (ys.set k (1 + 4 * (k : Int), z, 1 + 4 * (k : Int) + 1 + 1, 1 + 4 * (k : Int) + 1 + 1 + 1)).length = zs.length by rw [List.length_set, hyl.out])
      go_wp2_with fail
      go_roundw
      case rel => exact ⟨k + 1, _, by omega, by go_num, by congr 1 <;> omega, Lib.hid HL.out.symm, HMK, ⟨HS.out, hr2⟩, gr_set (gr_set (gr_set L2 (.inl rfl) _) (.inl rfl) _) (.inl rfl) _⟩
      case measure => (simp [intOf] <;> omega)
    · obtain rfl : k = zs.length := by omega
      go_wp2_with fail
      go_ret
      have e : ys = markL zs.length := by
        apply List.ext_getElem?
        intro q
        by_cases hq : q < zs.length
        · rw [hmk.out q hq]
          unfold markL
          rw [List.getElem?_map, List.getElem?_range hq]
          rfl
        · rw [List.getElem?_eq_none (by have := hyl.out; omega), List.getElem?_eq_none (by rw [markL_len]; omega)]
      exact ⟨by congr 2, hLr, by rw [← e]; exact hOr⟩
set_option maxHeartbeats 1000000 in
theorem markNfaM (lo hi : Nat) (A : Option Addr) (c : Nat) (zs : List (Int × ByteArray × Int × Int)) (w : World) (hO : Row w lo hi 76 4 (.slice A zs.length c) zs.length (flat nodeC zs)) (hn : zs.length ≤ 1048576) :
    Calls Try.prog 16 #[.agg #[.slice A zs.length c], .int .i64 1] w fun e w' => e = .returned (.int .i64 ((1 + 4 * zs.length : Nat) : Int)) ∧ w.grownBy w' (Value.slice A zs.length c).ownBlock ∧ Row w' lo hi 76 4 (.slice A zs.length c) zs.length (flat nodeC (markL zs.length)) := by
  have L0 := bl_alloc (Below.refl w.heap.size w) (.cells #[.slice A zs.length c] 30)
  have C := Lib.hid (markNodeM lo hi A c zs _ (hO.keep L0) hn)
  go_enter Try.func16, Try.ntmps16
  go_wp2_with fail
  refine C.out.mono ?_; rintro e w1 ⟨rfl, b1, r1⟩
  go_wp2_with fail
  go_ret
  exact ⟨rfl, gr_trans (gr_below (gr_refl w _) L0) b1, r1⟩


set_option maxRecDepth 20000 in
set_option maxHeartbeats 2000000 in
theorem heldNodeS_any (A : Option Addr) (c n : Nat) (w : World) (hn : n ≤ 1048576) (hR : Reads w w.heap.size 4 A n (flat nodeC (markL n))) :
    Calls Try.prog 57 #[.slice A n c, .int .i64 1] w fun e w' => e = .returned (.int .i64 ((1 + 4 * n : Nat) : Int)) ∧ Below w.heap.size w w' := by
  have hn' : (n : Int) ≤ 1048576 := by omega
  have L0 := Below.refl w.heap.size w
  go_enter Try.func57, Try.ntmps57
  go_wp2_with fail
  go_loopw [1, 5] (fun kv i wr => ∃ q : Nat, q ≤ n ∧ i = .int .i64 q ∧ kv = .int .i64 (1 + 4 * (q : Int)) ∧ Below w.heap.size w wr) (fun _ i _ => n - (intOf i).toNat)
  case atStart => exact ⟨0, Nat.zero_le _, rfl, rfl, L0⟩
  case round =>
    clear L0
    obtain ⟨q, hq, rfl, rfl, hL⟩ := hrel
    by_cases hlt : q < n
    · have hlt' : (q : Int) < (n : Int) := by omega
      have hR2 : Reads wr wr.heap.size 4 A (markL n).length (flat nodeC (markL n)) := by rw [markL_len]; exact rd_below hR hL
      obtain ⟨b, off, hAe, hbl, n0, n1, n2, n3⟩ := rd_node hR2 (i := q) (by rw [markL_len]; exact hlt)
      subst hAe
      rw [markL_get hlt] at n0 n1 n2 n3
      simp only [markN] at n0 n1 n2 n3
      have CM0 := fun w => markText_any (2 + 4 * q) w (by omega)
      generalize mtS (2 + 4 * q) = z at CM0 n1
      simp only [show ((2 + 4 * q : Nat) : Int) = 1 + 4 * (q : Int) + 1 by omega] at CM0
      have CM := Lib.hid CM0
      clear CM0 hR2 hR
      go_wp2_with fail
      refine wp_region_held_drew (S := (fun y => Below wr.heap.size wr y)) (by kernel_rfl) ?_ (fun hHeld => ?_)
      · exact (Below.refl _ _).drew
      refine wpAnyH_take (i := 0) (oi := ⟨some 21, _, _, _, _, _⟩) (v := ?_) rfl (by kernel_rfl) (by kernel_rfl) (by kernel_rfl) (fun _ _ _ h => h) (Or.inl ⟨by rfl, ?_⟩) (by assumption) ?_
      case refine_2 => (intro w hSw; skip; go_simp; first | done | with_reducible rfl)
      simp only [Act.put, List.setIfInBounds_toArray, List.set_cons_zero, List.set_cons_succ]
      refine wpAnyH_take (i := 1) (oi := ⟨some 22, _, _, _, _, _⟩) (v := ?_) rfl (by kernel_rfl) (by kernel_rfl) (by kernel_rfl) (fun _ _ _ h => h) (Or.inl ⟨by rfl, ?_⟩) (by assumption) ?_
      case refine_2 => (intro w hSw; skip; go_simp; first | done | with_reducible rfl)
      simp only [Act.put, List.setIfInBounds_toArray, List.set_cons_zero, List.set_cons_succ]
      refine wpAnyH_take (i := 2) (oi := ⟨some 23, _, _, _, _, _⟩) (v := ?_) rfl (by kernel_rfl) (by kernel_rfl) (by kernel_rfl) (fun _ _ _ h => h) (Or.inl ⟨by rfl, ?_⟩) (by assumption) ?_
      case refine_2 => (intro w hSw; skip; go_simp; (try rw [if_pos (by omega)]); first | done | with_reducible rfl)
      simp only [Act.put, List.setIfInBounds_toArray, List.set_cons_zero, List.set_cons_succ]
      refine wpAnyH_take (i := 3) (oi := ⟨some 24, _, _, _, _, _⟩) (v := ?_) rfl (by kernel_rfl) (by kernel_rfl) (by kernel_rfl) (fun _ _ _ h => h) (Or.inl ⟨by rfl, ?_⟩) (by assumption) ?_
      case refine_2 => (intro w hSw; skip; go_simp; first | done | with_reducible rfl)
      simp only [Act.put, List.setIfInBounds_toArray, List.set_cons_zero, List.set_cons_succ]
      refine wpAnyH_take (i := 4) (oi := ⟨some 25, _, _, _, _, _⟩) (v := ?_) rfl (by kernel_rfl) (by kernel_rfl) (by kernel_rfl) (fun _ _ _ h => h) (Or.inl ⟨by rfl, ?_⟩) (by assumption) ?_
      case refine_2 => (intro w hSw; have v := (hSw.cell (p := ⟨b, off + q * 4 + 1, none⟩) hbl).trans n1; go_simp; first | done | with_reducible rfl)
      simp only [Act.put, List.setIfInBounds_toArray, List.set_cons_zero, List.set_cons_succ]
      refine wpAnyH_take (i := 5) (oi := ⟨some 26, _, _, _, _, _⟩) (v := ?_) rfl (by kernel_rfl) (by kernel_rfl) (by kernel_rfl) (fun _ _ _ h => h) (Or.inl ⟨by rfl, ?_⟩) (by assumption) ?_
      case refine_2 => (intro w hSw; skip; go_simp; first | done | with_reducible rfl)
      simp only [Act.put, List.setIfInBounds_toArray, List.set_cons_zero, List.set_cons_succ]
      refine wpAnyH_ready (rs := [6]) (by kernel_rfl) (by simp) ?_
      refine AllReadyH.cons (o := ⟨some 27, _, _, _, _, _⟩) rfl (fun K hK => ?_) AllReadyH.nil
      go_simp
      refine (CM.out _).mono ?_; rintro e w1 ⟨rfl, b1⟩
      go_wp2_with fail
      refine hK.out _ _ (bl_trans hHeld b1) (fun hHeld => ?_)
      clear hK K
      try simp only [Act.put, List.setIfInBounds_toArray, List.set_cons_zero, List.set_cons_succ]
      refine wpAnyH_take (i := 7) (oi := ⟨some 28, _, _, _, _, _⟩) (v := ?_) rfl (by kernel_rfl) (by kernel_rfl) (by kernel_rfl) (fun _ _ _ h => h) (Or.inl ⟨by rfl, ?_⟩) (by assumption) ?_
      case refine_2 => (intro w hSw; skip; go_simp; first | done | with_reducible rfl)
      simp only [Act.put, List.setIfInBounds_toArray, List.set_cons_zero, List.set_cons_succ]
      refine wpAnyH_done (by kernel_rfl) ?_ _
      have m2 := (hHeld.cell (p := ⟨b, off + q * 4 + 2, none⟩) hbl).trans n2
      have m3 := (hHeld.cell (p := ⟨b, off + q * 4 + 3, none⟩) hbl).trans n3
      have L1 := bl_trans hL hHeld
      clear n0 n1 n2 n3 hHeld hL b1 CM
      go_wp2_with fail
      go_roundw
      case rel => exact ⟨q + 1, by omega, by go_num, by congr 1 <;> omega, L1⟩
      case measure => (simp [intOf] <;> omega)
    · obtain rfl : q = n := by omega
      go_wp2_with fail
      go_ret
      exact ⟨by congr 2, hL⟩
set_option maxHeartbeats 1000000 in
theorem heldNfa_any (A : Option Addr) (c n : Nat) (w : World) (hn : n ≤ 1048576) (hR : Reads w w.heap.size 4 A n (flat nodeC (markL n))) :
    Calls Try.prog 25 #[.agg #[.slice A n c], .int .i64 1] w fun e w' => e = .returned (.int .i64 ((1 + 4 * n : Nat) : Int)) ∧ Below w.heap.size w w' := by
  have L0 := bl_alloc (Below.refl w.heap.size w) (.cells #[.slice A n c] 30)
  have C := Lib.hid (heldNodeS_any A c n _ hn (rd_below hR L0))
  have hp : (0 : Int) ≤ ((1 + 4 * n : Nat) : Int) := by omega
  generalize ((1 + 4 * n : Nat) : Int) = K at C hp ⊢
  go_enter Try.func25, Try.ntmps25
  go_wp2_with fail
  refine C.out.mono ?_; rintro e w1 ⟨rfl, b1⟩
  go_wp2_with fail
  go_ret
  exact ⟨rfl, bl_trans L0 b1⟩

end Go.Proofs.Ytnoekbgmhnhneaa
