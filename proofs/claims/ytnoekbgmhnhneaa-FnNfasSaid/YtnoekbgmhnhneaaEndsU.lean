/- Walk over the reference's matrix of one byte: l4One. -/
import Derived.Test.YtnoekbgmhnhneaaEndsS
import Derived.Deep.RegionHeld3
namespace Go.Proofs.Ytnoekbgmhnhneaa
open Go.RowKit

set_option maxRecDepth 20000 in
set_option maxHeartbeats 4000000 in
theorem sOne (zk : Int) (zs : ByteArray) (A : Option Addr) (n c : Nat) (s : ByteArray) (m : Nat) (w : World) (hm : Hid (s.size + 1 = m)) (hs : s.size ≤ 1048576) (hzs : zs.size ≤ 1048576) :
    Calls Try.prog 118 #[.agg #[.int .i64 zk, .string zs, .slice A n c], .string s] w fun e w' => RetM m (oneR s zk zs) w e w' ∧ Below w.heap.size w w' := by
  have L0 := bl_alloc (Below.refl w.heap.size w) (.cells #[.int .i64 zk, .string zs, .slice A n c] 45)
  have C := sNone s (w.alloc (.cells #[.int .i64 zk, .string zs, .slice A n c] 45)) hs
  rw [hm.out] at C
  have CC := Lib.hid C
  clear C
  have B := Blk.new w 45 #[.int .i64 zk, .string zs, .slice A n c]
  have hm1 : m ≤ 1048577 := by have := hm.out; omega
  have hm2 : s.size < m := by have := hm.out; omega
  have hm3 : m ≤ s.size + 1 := by have := hm.out; omega
  have hmm : (m : Int) ≤ 1048577 := by omega
  go_enter Try.func118, Try.ntmps118
  go_wp2_with fail
  refine CC.out.mono ?_; rintro e w1 ⟨⟨v, g, M0, rfl, hM0, hI0⟩, b1⟩
  have hL0 := bl_trans L0 b1
  replace B := B.keep b1
  have es := alloc_size w (.cells #[.int .i64 zk, .string zs, .slice A n c] 45)
  rw [es] at hM0
  clear es
  obtain ⟨b, c', rfl, _, _, _⟩ := hM0.form (by omega)
  go_wp2_with fail
  go_loopw [6] (fun i wr => ∃ (k : Nat) (M : Nat → Nat → Bool), k ≤ s.size ∧ i = .int .i64 k ∧ MatK wr (w.heap.size + 1) w1.heap.size (.slice (some ⟨b, 0, none⟩) m c') m m g M ∧ (∀ x y, x < m → y < m → (M x y = true ↔ x < k ∧ oneR s zk zs x y)) ∧ Blk wr w.heap.size 45 #[.int .i64 zk, .string zs, .slice A n c] ∧ Below w.heap.size w wr ∧ w1.heap.size ≤ wr.heap.size) (fun i _ => s.size - (intOf i).toNat)
  case atStart => exact ⟨0, M0, Nat.zero_le _, rfl, hM0, fun x y hx hy => by rw [hI0 x y hx hy]; exact ⟨fun h => h.elim, fun h => absurd h.1 (Nat.not_lt_zero _)⟩, B, hL0, Nat.le_refl _⟩
  case round =>
    obtain ⟨k, M, hk, rfl, hM, hF, hB, hL, hz⟩ := hrel
    by_cases hlt : k < s.size
    · have hlt' : (k : Int) < (s.size : Int) := by omega
      have hkm : k < m := by omega
      have hkm' : (k : Int) < (m : Int) := by omega
      have hkm1 : k + 1 < m := by omega
      have hkm1' : (k : Int) + 1 < (m : Int) := by omega
      have hx := s[k].toNat_lt
      have hx' : (s[k].toNat : Int) < 256 := by omega
      have p1 := hM.row hkm
      have p2 := hM.cell hkm hkm1
      have p3 := hM.frozen hkm (k + 1)
      have pB := hB.cell
      have hgk := hM.lt hkm
      have ew : IntKind.i64.wrap ((k : Int) + 1) = (k : Int) + 1 := IntWalk.i64_in _ (by omega)
      have e1 : ((k : Int) + 1).toNat = k + 1 := by omega
      have e0 : 0 ≤ (k : Int) + 1 := by omega
      have hS := hM.drew.set hkm (j := k + 1) (takeB zk zs (s[k].toNat : Int))
      have hSB := hB.drew.farb (b := g k) (j := k + 1) (by omega) (.bool (takeB zk zs (s[k].toNat : Int)))
      have hSL := bl_setb (b := g k) (j := k + 1) hL.drew (by omega) (.bool (takeB zk zs (s[k].toNat : Int)))
      have hSF : ∀ x y, x < m → y < m → (updM M k (k + 1) (takeB zk zs (s[k].toNat : Int)) x y = true ↔ x < k + 1 ∧ oneR s zk zs x y) := fun x y hxm hy => by
        by_cases e : x = k
        · subst e
          rw [updM_row]
          by_cases e2 : y = x + 1
          · subst e2
            rw [upd_same]
            exact ⟨fun h => ⟨by omega, rfl, hlt, h⟩, fun ⟨_, _, _, h⟩ => h⟩
          · rw [upd_other _ _ e2, hF x y hxm hy]
            exact ⟨fun h => absurd h.2.1 e2, fun h => absurd h.2.1 e2⟩
        · rw [updM_other _ _ _ e, hF x y hxm hy]
          exact ⟨fun h => ⟨by omega, h.2⟩, fun h => ⟨by omega, h.2⟩⟩
      have hSz : w1.heap.size ≤ (wr.drew.setCell ⟨g k, k + 1, none⟩ (.bool (takeB zk zs (s[k].toNat : Int)))).heap.size := by simpa using hz
      generalize updM M k (k + 1) (takeB zk zs (s[k].toNat : Int)) = M3 at hS hSF
      have HSF := Lib.hid hSF
      clear hSF
      have CT := Lib.hid fun w => sTakes zk zs (s[k].toNat : Int) w (by omega) (by omega) hx'
      clear hF
      generalize takeB zk zs (s[k].toNat : Int) = xb at CT hS hSB hSL hSz
      have HS := Lib.hid hS
      clear hS
      clear p2 pB
      go_wp2_with fail
      refine wp_region_held_drew (S := (fun x => Blk x w.heap.size 45 #[.int .i64 zk, .string zs, .slice A n c] ∧ ∃ M2, MatK x (w.heap.size + 1) w1.heap.size (.slice (some ⟨b, 0, none⟩) m c') m m g M2)) (by kernel_rfl) ?_ (fun hHeld => ?_)
      · exact ⟨hB.drew, M, hM.drew⟩
      refine wpAnyH_take (i := 0) (oi := ⟨some 15, _, _, _, _, _⟩) (v := ?_) rfl (by kernel_rfl) (by kernel_rfl) (by kernel_rfl) (fun _ _ _ h => h) (Or.inl ⟨by rfl, ?_⟩) (by assumption) ?_
      case refine_2 => (intro w hSw; skip; go_simp; first | done | with_reducible rfl)
      simp only [Act.put, List.setIfInBounds_toArray, List.set_cons_zero, List.set_cons_succ]
      refine wpAnyH_take (i := 1) (oi := ⟨some 16, _, _, _, _, _⟩) (v := ?_) rfl (by kernel_rfl) (by kernel_rfl) (by kernel_rfl) (fun _ _ _ h => h) (Or.inl ⟨by rfl, ?_⟩) (by assumption) ?_
      case refine_2 => (intro w hSw; skip; go_simp; first | done | with_reducible rfl)
      simp only [Act.put, List.setIfInBounds_toArray, List.set_cons_zero, List.set_cons_succ]
      refine wpAnyH_take (i := 2) (oi := ⟨some 17, _, _, _, _, _⟩) (v := ?_) rfl (by kernel_rfl) (by kernel_rfl) (by kernel_rfl) (fun _ _ _ h => h) (Or.inl ⟨by rfl, ?_⟩) (by assumption) ?_
      case refine_2 => (intro w hSw; skip; go_simp; first | done | with_reducible rfl)
      simp only [Act.put, List.setIfInBounds_toArray, List.set_cons_zero, List.set_cons_succ]
      refine wpAnyH_take (i := 3) (oi := ⟨some 18, _, _, _, _, _⟩) (v := ?_) rfl (by kernel_rfl) (by kernel_rfl) (by kernel_rfl) (fun _ _ _ h => h) (Or.inl ⟨by rfl, ?_⟩) (by assumption) ?_
      case refine_2 => (intro w hSw; obtain ⟨_, M2, hM2⟩ := hSw; have p := hM2.row hkm; go_simp; first | done | with_reducible rfl)
      simp only [Act.put, List.setIfInBounds_toArray, List.set_cons_zero, List.set_cons_succ]
      refine wpAnyH_take (i := 4) (oi := ⟨some 19, _, _, _, _, _⟩) (v := ?_) rfl (by kernel_rfl) (by kernel_rfl) (by kernel_rfl) (fun _ _ _ h => h) (Or.inl ⟨by rfl, ?_⟩) (by assumption) ?_
      case refine_2 => (intro w hSw; skip; go_simp; first | done | with_reducible rfl)
      simp only [Act.put, List.setIfInBounds_toArray, List.set_cons_zero, List.set_cons_succ]
      refine wpAnyH_take (i := 5) (oi := ⟨some 20, _, _, _, _, _⟩) (v := ?_) rfl (by kernel_rfl) (by kernel_rfl) (by kernel_rfl) (fun _ _ _ h => h) (Or.inl ⟨by rfl, ?_⟩) (by assumption) ?_
      case refine_2 => (intro w hSw; skip; go_simp; first | done | with_reducible rfl)
      simp only [Act.put, List.setIfInBounds_toArray, List.set_cons_zero, List.set_cons_succ]
      refine wpAnyH_take (i := 6) (oi := ⟨some 21, _, _, _, _, _⟩) (v := ?_) rfl (by kernel_rfl) (by kernel_rfl) (by kernel_rfl) (fun _ _ _ h => h) (Or.inl ⟨by rfl, ?_⟩) (by assumption) ?_
      case refine_2 => (intro w hSw; skip; go_simp; first | done | with_reducible rfl)
      simp only [Act.put, List.setIfInBounds_toArray, List.set_cons_zero, List.set_cons_succ]
      refine wpAnyH_take (i := 7) (oi := ⟨some 22, _, _, _, _, _⟩) (v := ?_) rfl (by kernel_rfl) (by kernel_rfl) (by kernel_rfl) (fun _ _ _ h => h) (Or.inl ⟨by rfl, ?_⟩) (by assumption) ?_
      case refine_2 => (intro w hSw; have p := hSw.1.cell; go_simp; first | done | with_reducible rfl)
      simp only [Act.put, List.setIfInBounds_toArray, List.set_cons_zero, List.set_cons_succ]
      refine wpAnyH_take (i := 8) (oi := ⟨some 23, _, _, _, _, _⟩) (v := ?_) rfl (by kernel_rfl) (by kernel_rfl) (by kernel_rfl) (fun _ _ _ h => h) (Or.inl ⟨by rfl, ?_⟩) (by assumption) ?_
      case refine_2 => (intro w hSw; skip; go_simp; first | done | with_reducible rfl)
      simp only [Act.put, List.setIfInBounds_toArray, List.set_cons_zero, List.set_cons_succ]
      refine wpAnyH_take (i := 9) (oi := ⟨some 24, _, _, _, _, _⟩) (v := ?_) rfl (by kernel_rfl) (by kernel_rfl) (by kernel_rfl) (fun _ _ _ h => h) (Or.inl ⟨by rfl, ?_⟩) (by assumption) ?_
      case refine_2 => (intro w hSw; have p := hSw.1.cell; go_simp; first | done | with_reducible rfl)
      simp only [Act.put, List.setIfInBounds_toArray, List.set_cons_zero, List.set_cons_succ]
      refine wpAnyH_take (i := 10) (oi := ⟨some 25, _, _, _, _, _⟩) (v := ?_) rfl (by kernel_rfl) (by kernel_rfl) (by kernel_rfl) (fun _ _ _ h => h) (Or.inl ⟨by rfl, ?_⟩) (by assumption) ?_
      case refine_2 => (intro w hSw; skip; go_simp; first | done | with_reducible rfl)
      simp only [Act.put, List.setIfInBounds_toArray, List.set_cons_zero, List.set_cons_succ]
      refine wpAnyH_take (i := 11) (oi := ⟨some 26, _, _, _, _, _⟩) (v := ?_) rfl (by kernel_rfl) (by kernel_rfl) (by kernel_rfl) (fun _ _ _ h => h) (Or.inl ⟨by rfl, ?_⟩) (by assumption) ?_
      case refine_2 => (intro w hSw; skip; go_simp; first | done | with_reducible rfl)
      simp only [Act.put, List.setIfInBounds_toArray, List.set_cons_zero, List.set_cons_succ]
      refine wpAnyH_take (i := 12) (oi := ⟨some 27, _, _, _, _, _⟩) (v := ?_) rfl (by kernel_rfl) (by kernel_rfl) (by kernel_rfl) (fun _ _ _ h => h) (Or.inl ⟨by rfl, ?_⟩) (by assumption) ?_
      case refine_2 => (intro w hSw; skip; go_simp; first | done | with_reducible rfl)
      simp only [Act.put, List.setIfInBounds_toArray, List.set_cons_zero, List.set_cons_succ]
      refine wpAnyH_ready (rs := [13]) (by kernel_rfl) (by simp) ?_
      refine AllReadyH.cons (o := ⟨some 28, _, _, _, _, _⟩) rfl (fun K hK => ?_) AllReadyH.nil
      go_simp
      refine (CT.out _).mono ?_; rintro e w4 ⟨rfl, rfl⟩
      go_wp2_with fail
      refine hK.out _ _ (hHeld) (fun hHeld => ?_)
      clear hK K
      try simp only [Act.put, List.setIfInBounds_toArray, List.set_cons_zero, List.set_cons_succ]
      refine wpAnyH_take (i := 14) (oi := ⟨some 29, _, _, _, _, _⟩) (v := ?_) rfl (by kernel_rfl) (by kernel_rfl) (by kernel_rfl) (fun _ _ _ h => h) (Or.inl ⟨by rfl, ?_⟩) (by assumption) ?_
      case refine_2 => (intro w hSw; skip; go_simp; first | done | with_reducible rfl)
      simp only [Act.put, List.setIfInBounds_toArray, List.set_cons_zero, List.set_cons_succ]
      have p2 := hM.drew.cell hkm hkm1
      have p3' := hM.drew.frozen hkm (k + 1)
      refine wpAnyH_ready (rs := [15]) (by kernel_rfl) (by simp) ?_
      refine AllReadyH.cons (o := ⟨none, _, _, _, _, _⟩) rfl (fun K hK => ?_) AllReadyH.nil
      go_simp
      go_wp2_with fail
      refine hK.out _ _ ⟨hSB, M3, HS.out⟩ (fun hHeld => ?_)
      clear hK K hHeld
      try simp only [Act.put, List.setIfInBounds_toArray, List.set_cons_zero, List.set_cons_succ]
      refine wpAnyH_done (by kernel_rfl) ?_ _
      go_wp2_with fail
      go_roundw
      case rel => exact ⟨k + 1, M3, by omega, by go_num, HS.out, HSF.out, hSB, hSL, hSz⟩
      case measure => (simp [intOf] <;> omega)
    · obtain rfl : k = s.size := by omega
      go_wp2_with fail
      go_ret
      exact ⟨⟨_, g, M, rfl, hM.more (by omega) hz, fun x y hx hy => by rw [hF x y hx hy]; exact ⟨fun h => h.2, fun h => ⟨by obtain ⟨_, h2, _⟩ := h; exact h2, h⟩⟩⟩, hL⟩

end Go.Proofs.Ytnoekbgmhnhneaa
