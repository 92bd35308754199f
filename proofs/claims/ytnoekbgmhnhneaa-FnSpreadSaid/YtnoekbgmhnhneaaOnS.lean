/- Walk over the reference's Onward. -/
import Derived.Test.YtnoekbgmhnhneaaOnP
import Derived.Deep.RegionHeld3
import Derived.Deep.RegionWith
namespace Go.Proofs.Ytnoekbgmhnhneaa
open Go.RowKit

set_option maxRecDepth 20000 in
set_option maxHeartbeats 4000000 in
theorem sOnward (zs : List (Int × ByteArray × Int × Int)) (l : List Int) (c : Int) (A B0 : Option Addr) (cz cl : Nat) (w : World) (hz : zs.length ≤ 1048576) (hzx : ∀ z ∈ zs, z.2.1.size ≤ 9223372036854775807) (hl : l.length ≤ 1048576) (hc0 : 0 ≤ c) (hc1 : c < 256) (hRz : Reads w w.heap.size 4 A zs.length (flat nodeC zs)) (hRl : Reads w w.heap.size 1 B0 l.length (zints l)) :
    Calls Try.prog 26 #[.agg #[.slice A zs.length cz], .slice B0 l.length cl, .int .u8 c] w fun e w' => RetZ (OnR zs c l) w e w' ∧ Below w.heap.size w w' := by
  have BN0 := Blk.new w 30 #[.slice A zs.length cz]
  have L0 := bl_alloc (Below.refl w.heap.size w) (.cells #[.slice A zs.length cz] 30)
  have hz' : (zs.length : Int) ≤ 1048576 := by omega
  have hl' : (l.length : Int) ≤ 1048576 := by omega
  go_enter Try.func26, Try.ntmps26
  have hO0 := World.ownsRow_made (e := 3) (size := 1) (base := w.heap.size) (w.alloc (.cells #[.slice A zs.length cz] 30)) #[] 0 L0.size (by simp [maxLen]) (by simp)
  rw [alloc_size] at hO0
  have hR0 := Row.mk hO0
  clear hO0
  go_wp2_with fail
  go_loopw [7, 8] (fun v i wr => ∃ (k : Nat) (R : List Int), k ≤ l.length ∧ i = .int .i64 k ∧ OnR zs c (l.take k) R ∧ Row wr w.heap.size wr.heap.size 3 1 v R.length (zints R) ∧ Blk wr w.heap.size 30 #[.slice A zs.length cz] ∧ Below w.heap.size w wr) (fun _ i _ => l.length - (intOf i).toNat)
  case atStart => exact ⟨0, [], Nat.zero_le _, rfl, OnR.zero zs c l, hR0, BN0.alloc _, bl_alloc L0 _⟩
  case round =>
    clear BN0 L0
    obtain ⟨k, R, hk, rfl, hOn, hO, BN, hL⟩ := hrel
    obtain ⟨Av, cv, rfl⟩ := hO.form
    have cb := BN.cell
    by_cases hlt : k < l.length
    · have hlt' : (k : Int) < (l.length : Int) := by omega
      obtain ⟨bl, ol, hAe, hbl0, hcl⟩ := hRl.2 (by omega)
      subst hAe
      have hbl : bl < wr.heap.size := Nat.lt_of_lt_of_le hbl0 hL.size
      have q0 := (hL.cell (p := ⟨bl, ol + k, none⟩) hbl0).trans (hcl k _ (zints_get l hlt))
      have HS0 := Lib.hid (fun hn => hOn.skip hlt hn)
      have HP0 := Lib.hid (fun n S hn hp => hOn.put (n := n) (S := S) hlt hn hp)
      have HOn := Lib.hid hOn
      have hRis := Lib.hid hOn.1
      have hlenR := hOn.2.2
      rw [List.length_take] at hlenR
      clear hcl hOn
      generalize l[k] = z at q0 HS0 HP0
      have cIn := fun w => sIn z 0 ((zs.length : Int) - 1) w
      obtain ⟨q, hq⟩ : ∃ q, inI z 0 ((zs.length : Int) - 1) = q := ⟨_, rfl⟩
      rw [hq] at cIn
      have CIn := Lib.hid cIn
      have ew : IntKind.i64.wrap ((zs.length : Int) - 1) = (zs.length : Int) - 1 := by rw [IntKind.wrap_i64]; omega
      clear cIn
      cases q
      · have HN := Lib.hid (HS0.out (onF_out hq))
        clear hq HS0 HP0
        go_wp2_with fail
        refine wp_region_held_drew (S := (fun y => Below wr.heap.size wr y)) (by kernel_rfl) ?_ (fun hHeld => ?_)
        · exact (Below.refl _ _).drew
        refine wpAnyH_take (i := 0) (oi := ⟨some 17, _, _, _, _, _⟩) (v := ?_) rfl (by kernel_rfl) (by kernel_rfl) (by kernel_rfl) (fun _ _ _ h => h) (Or.inl ⟨by rfl, ?_⟩) (by assumption) ?_
        case refine_2 => (intro w hSw; skip; go_simp; first | done | with_reducible rfl)
        simp only [Act.put, List.setIfInBounds_toArray, List.set_cons_zero, List.set_cons_succ]
        refine wpAnyH_take (i := 1) (oi := ⟨some 18, _, _, _, _, _⟩) (v := ?_) rfl (by kernel_rfl) (by kernel_rfl) (by kernel_rfl) (fun _ _ _ h => h) (Or.inl ⟨by rfl, ?_⟩) (by assumption) ?_
        case refine_2 => (intro w hSw; skip; go_simp; first | done | with_reducible rfl)
        simp only [Act.put, List.setIfInBounds_toArray, List.set_cons_zero, List.set_cons_succ]
        refine wpAnyH_take (i := 2) (oi := ⟨some 19, _, _, _, _, _⟩) (v := ?_) rfl (by kernel_rfl) (by kernel_rfl) (by kernel_rfl) (fun _ _ _ h => h) (Or.inl ⟨by rfl, ?_⟩) (by assumption) ?_
        case refine_2 => (intro w hSw; skip; go_simp; (try rw [if_pos (by omega)]); first | done | with_reducible rfl)
        simp only [Act.put, List.setIfInBounds_toArray, List.set_cons_zero, List.set_cons_succ]
        refine wpAnyH_take (i := 3) (oi := ⟨some 20, _, _, _, _, _⟩) (v := ?_) rfl (by kernel_rfl) (by kernel_rfl) (by kernel_rfl) (fun _ _ _ h => h) (Or.inl ⟨by rfl, ?_⟩) (by assumption) ?_
        case refine_2 => (intro w hSw; have p := (BN.keep hSw).cell; have v0 := (hSw.cell (p := ⟨bl, ol + k, none⟩) hbl).trans q0; go_simp; first | done | with_reducible rfl)
        simp only [Act.put, List.setIfInBounds_toArray, List.set_cons_zero, List.set_cons_succ]
        refine wpAnyH_take (i := 4) (oi := ⟨some 21, _, _, _, _, _⟩) (v := ?_) rfl (by kernel_rfl) (by kernel_rfl) (by kernel_rfl) (fun _ _ _ h => h) (Or.inl ⟨by rfl, ?_⟩) (by assumption) ?_
        case refine_2 => (intro w hSw; skip; go_simp; first | done | with_reducible rfl)
        simp only [Act.put, List.setIfInBounds_toArray, List.set_cons_zero, List.set_cons_succ]
        refine wpAnyH_take (i := 5) (oi := ⟨some 22, _, _, _, _, _⟩) (v := ?_) rfl (by kernel_rfl) (by kernel_rfl) (by kernel_rfl) (fun _ _ _ h => h) (Or.inl ⟨by rfl, ?_⟩) (by assumption) ?_
        case refine_2 => (intro w hSw; have p := (BN.keep hSw).cell; have v0 := (hSw.cell (p := ⟨bl, ol + k, none⟩) hbl).trans q0; go_simp; first | done | with_reducible rfl)
        simp only [Act.put, List.setIfInBounds_toArray, List.set_cons_zero, List.set_cons_succ]
        refine wpAnyH_take (i := 6) (oi := ⟨some 23, _, _, _, _, _⟩) (v := ?_) rfl (by kernel_rfl) (by kernel_rfl) (by kernel_rfl) (fun _ _ _ h => h) (Or.inl ⟨by rfl, ?_⟩) (by assumption) ?_
        case refine_2 => (intro w hSw; skip; go_simp; first | done | with_reducible rfl)
        simp only [Act.put, List.setIfInBounds_toArray, List.set_cons_zero, List.set_cons_succ]
        refine wpAnyH_take (i := 7) (oi := ⟨some 24, _, _, _, _, _⟩) (v := ?_) rfl (by kernel_rfl) (by kernel_rfl) (by kernel_rfl) (fun _ _ _ h => h) (Or.inl ⟨by rfl, ?_⟩) (by assumption) ?_
        case refine_2 => (intro w hSw; skip; go_simp; first | done | with_reducible rfl)
        simp only [Act.put, List.setIfInBounds_toArray, List.set_cons_zero, List.set_cons_succ]
        refine wpAnyH_ready (rs := [8]) (by kernel_rfl) (by simp) ?_
        refine AllReadyH.cons (o := ⟨some 25, _, _, _, _, _⟩) rfl (fun K hK => ?_) AllReadyH.nil
        go_simp
        refine (CIn.out _).mono ?_; rintro e y0 ⟨rfl, rfl⟩
        go_wp2_with fail
        refine hK.out _ _ (hHeld) (fun hHeld => ?_)
        clear hK K
        try simp only [Act.put, List.setIfInBounds_toArray, List.set_cons_zero, List.set_cons_succ]
        refine wpAnyH_take (i := 9) (oi := ⟨some 26, _, _, _, _, _⟩) (v := ?_) rfl (by kernel_rfl) (by kernel_rfl) (by kernel_rfl) (fun _ _ _ h => h) (Or.inl ⟨by rfl, ?_⟩) (by assumption) ?_
        case refine_2 => (intro w hSw; skip; go_simp; first | done | with_reducible rfl)
        simp only [Act.put, List.setIfInBounds_toArray, List.set_cons_zero, List.set_cons_succ]
        refine wpAnyH_done (by kernel_rfl) ?_ _
        go_wp2_with fail
        go_roundw
        case rel => exact ⟨k + 1, R, by omega, by go_num, HN.out, (hO.keep hHeld).more (Nat.le_refl _) (Nat.le_refl _) |>.more (Nat.le_refl _) hHeld.size, BN.keep hHeld, bl_trans hL hHeld⟩
        case measure => simp [intOf]; omega
      · obtain ⟨z0, z1⟩ := inI_iff.1 hq
        have hzn : z.toNat < zs.length := by omega
        have hzl : z < (zs.length : Int) := by omega
        obtain ⟨bz, oz, hAe, hbz0, n0, n1, n2, n3⟩ := rd_node (hRz.below (hL.mono (Nat.le_refl _))) hzn
        subst hAe
        rw [ndAt_get hzn] at n0 n1 n2 n3
        have hxs := hzx (ndAt zs z) (by rw [← ndAt_get hzn]; exact List.getElem_mem _)
        have HY0 := Lib.hid (fun h => HP0.out _ · (onF_yes (c := c) hq h))
        have HN0 := Lib.hid (fun h => HS0.out (onF_no (c := c) h))
        have hbz : bz < wr.heap.size := Nat.lt_of_lt_of_le hbz0 hL.size
        generalize ndAt zs z = x at n0 n1 n2 n3 hxs HY0 HN0
        obtain ⟨xk, xs, xa, xb⟩ := x
        simp only at n0 n1 n2 n3 hxs
        clear HS0 HP0 hq
        go_wp2_with fail
        refine wp_region_held_drew (S := (fun y => Below wr.heap.size wr y)) (by kernel_rfl) ?_ (fun hHeld => ?_)
        · exact (Below.refl _ _).drew
        refine wpAnyH_take (i := 0) (oi := ⟨some 17, _, _, _, _, _⟩) (v := ?_) rfl (by kernel_rfl) (by kernel_rfl) (by kernel_rfl) (fun _ _ _ h => h) (Or.inl ⟨by rfl, ?_⟩) (by assumption) ?_
        case refine_2 => (intro w hSw; skip; go_simp; first | done | with_reducible rfl)
        simp only [Act.put, List.setIfInBounds_toArray, List.set_cons_zero, List.set_cons_succ]
        refine wpAnyH_take (i := 1) (oi := ⟨some 18, _, _, _, _, _⟩) (v := ?_) rfl (by kernel_rfl) (by kernel_rfl) (by kernel_rfl) (fun _ _ _ h => h) (Or.inl ⟨by rfl, ?_⟩) (by assumption) ?_
        case refine_2 => (intro w hSw; skip; go_simp; first | done | with_reducible rfl)
        simp only [Act.put, List.setIfInBounds_toArray, List.set_cons_zero, List.set_cons_succ]
        refine wpAnyH_take (i := 2) (oi := ⟨some 19, _, _, _, _, _⟩) (v := ?_) rfl (by kernel_rfl) (by kernel_rfl) (by kernel_rfl) (fun _ _ _ h => h) (Or.inl ⟨by rfl, ?_⟩) (by assumption) ?_
        case refine_2 => (intro w hSw; skip; go_simp; (try rw [if_pos (by omega)]); first | done | with_reducible rfl)
        simp only [Act.put, List.setIfInBounds_toArray, List.set_cons_zero, List.set_cons_succ]
        refine wpAnyH_take (i := 3) (oi := ⟨some 20, _, _, _, _, _⟩) (v := ?_) rfl (by kernel_rfl) (by kernel_rfl) (by kernel_rfl) (fun _ _ _ h => h) (Or.inl ⟨by rfl, ?_⟩) (by assumption) ?_
        case refine_2 => (intro w hSw; have p := (BN.keep hSw).cell; have v0 := (hSw.cell (p := ⟨bl, ol + k, none⟩) hbl).trans q0; go_simp; first | done | with_reducible rfl)
        simp only [Act.put, List.setIfInBounds_toArray, List.set_cons_zero, List.set_cons_succ]
        refine wpAnyH_take (i := 4) (oi := ⟨some 21, _, _, _, _, _⟩) (v := ?_) rfl (by kernel_rfl) (by kernel_rfl) (by kernel_rfl) (fun _ _ _ h => h) (Or.inl ⟨by rfl, ?_⟩) (by assumption) ?_
        case refine_2 => (intro w hSw; skip; go_simp; first | done | with_reducible rfl)
        simp only [Act.put, List.setIfInBounds_toArray, List.set_cons_zero, List.set_cons_succ]
        refine wpAnyH_take (i := 5) (oi := ⟨some 22, _, _, _, _, _⟩) (v := ?_) rfl (by kernel_rfl) (by kernel_rfl) (by kernel_rfl) (fun _ _ _ h => h) (Or.inl ⟨by rfl, ?_⟩) (by assumption) ?_
        case refine_2 => (intro w hSw; have p := (BN.keep hSw).cell; have v0 := (hSw.cell (p := ⟨bl, ol + k, none⟩) hbl).trans q0; go_simp; first | done | with_reducible rfl)
        simp only [Act.put, List.setIfInBounds_toArray, List.set_cons_zero, List.set_cons_succ]
        refine wpAnyH_take (i := 6) (oi := ⟨some 23, _, _, _, _, _⟩) (v := ?_) rfl (by kernel_rfl) (by kernel_rfl) (by kernel_rfl) (fun _ _ _ h => h) (Or.inl ⟨by rfl, ?_⟩) (by assumption) ?_
        case refine_2 => (intro w hSw; skip; go_simp; first | done | with_reducible rfl)
        simp only [Act.put, List.setIfInBounds_toArray, List.set_cons_zero, List.set_cons_succ]
        refine wpAnyH_take (i := 7) (oi := ⟨some 24, _, _, _, _, _⟩) (v := ?_) rfl (by kernel_rfl) (by kernel_rfl) (by kernel_rfl) (fun _ _ _ h => h) (Or.inl ⟨by rfl, ?_⟩) (by assumption) ?_
        case refine_2 => (intro w hSw; skip; go_simp; first | done | with_reducible rfl)
        simp only [Act.put, List.setIfInBounds_toArray, List.set_cons_zero, List.set_cons_succ]
        refine wpAnyH_ready (rs := [8]) (by kernel_rfl) (by simp) ?_
        refine AllReadyH.cons (o := ⟨some 25, _, _, _, _, _⟩) rfl (fun K hK => ?_) AllReadyH.nil
        go_simp
        refine (CIn.out _).mono ?_; rintro e y0 ⟨rfl, rfl⟩
        go_wp2_with fail
        refine hK.out _ _ (hHeld) (fun hHeld => ?_)
        clear hK K
        try simp only [Act.put, List.setIfInBounds_toArray, List.set_cons_zero, List.set_cons_succ]
        refine wpAnyH_take (i := 9) (oi := ⟨some 26, _, _, _, _, _⟩) (v := ?_) rfl (by kernel_rfl) (by kernel_rfl) (by kernel_rfl) (fun _ _ _ h => h) (Or.inl ⟨by rfl, ?_⟩) (by assumption) ?_
        case refine_2 => (intro w hSw; skip; go_simp; first | done | with_reducible rfl)
        simp only [Act.put, List.setIfInBounds_toArray, List.set_cons_zero, List.set_cons_succ]
        refine wpAnyH_done (by kernel_rfl) ?_ _
        go_wp2_with fail
        refine wp_region_held_drew (S := (fun y => Below wr.heap.size wr y)) (by kernel_rfl) ?_ (fun hHeld => ?_)
        · exact hHeld.drew
        refine wpAnyH_take (i := 0) (oi := ⟨some 27, _, _, _, _, _⟩) (v := ?_) rfl (by kernel_rfl) (by kernel_rfl) (by kernel_rfl) (fun _ _ _ h => h) (Or.inl ⟨by rfl, ?_⟩) (by assumption) ?_
        case refine_2 => (intro w hSw; skip; go_simp; first | done | with_reducible rfl)
        simp only [Act.put, List.setIfInBounds_toArray, List.set_cons_zero, List.set_cons_succ]
        refine wpAnyH_take (i := 1) (oi := ⟨some 28, _, _, _, _, _⟩) (v := ?_) rfl (by kernel_rfl) (by kernel_rfl) (by kernel_rfl) (fun _ _ _ h => h) (Or.inl ⟨by rfl, ?_⟩) (by assumption) ?_
        case refine_2 => (intro w hSw; have p := (BN.keep hSw).cell; have v0 := (hSw.cell (p := ⟨bl, ol + k, none⟩) hbl).trans q0; have m0 := (hSw.cell (p := ⟨bz, oz + z.toNat * 4, none⟩) hbz).trans n0; have m1 := (hSw.cell (p := ⟨bz, oz + z.toNat * 4 + 1, none⟩) hbz).trans n1; have m2 := (hSw.cell (p := ⟨bz, oz + z.toNat * 4 + 2, none⟩) hbz).trans n2; have m3 := (hSw.cell (p := ⟨bz, oz + z.toNat * 4 + 3, none⟩) hbz).trans n3; go_simp; first | done | with_reducible rfl)
        simp only [Act.put, List.setIfInBounds_toArray, List.set_cons_zero, List.set_cons_succ]
        refine wpAnyH_take (i := 2) (oi := ⟨some 29, _, _, _, _, _⟩) (v := ?_) rfl (by kernel_rfl) (by kernel_rfl) (by kernel_rfl) (fun _ _ _ h => h) (Or.inl ⟨by rfl, ?_⟩) (by assumption) ?_
        case refine_2 => (intro w hSw; skip; go_simp; first | done | with_reducible rfl)
        simp only [Act.put, List.setIfInBounds_toArray, List.set_cons_zero, List.set_cons_succ]
        refine wpAnyH_take (i := 3) (oi := ⟨some 30, _, _, _, _, _⟩) (v := ?_) rfl (by kernel_rfl) (by kernel_rfl) (by kernel_rfl) (fun _ _ _ h => h) (Or.inl ⟨by rfl, ?_⟩) (by assumption) ?_
        case refine_2 => (intro w hSw; skip; go_simp; first | done | with_reducible rfl)
        simp only [Act.put, List.setIfInBounds_toArray, List.set_cons_zero, List.set_cons_succ]
        refine wpAnyH_take (i := 4) (oi := ⟨some 31, _, _, _, _, _⟩) (v := ?_) rfl (by kernel_rfl) (by kernel_rfl) (by kernel_rfl) (fun _ _ _ h => h) (Or.inl ⟨by rfl, ?_⟩) (by assumption) ?_
        case refine_2 => (intro w hSw; skip; go_simp; (try rw [if_pos (by omega)]); first | done | with_reducible rfl)
        simp only [Act.put, List.setIfInBounds_toArray, List.set_cons_zero, List.set_cons_succ]
        refine wpAnyH_take (i := 5) (oi := ⟨some 32, _, _, _, _, _⟩) (v := ?_) rfl (by kernel_rfl) (by kernel_rfl) (by kernel_rfl) (fun _ _ _ h => h) (Or.inl ⟨by rfl, ?_⟩) (by assumption) ?_
        case refine_2 => (intro w hSw; have p := (BN.keep hSw).cell; have v0 := (hSw.cell (p := ⟨bl, ol + k, none⟩) hbl).trans q0; have m0 := (hSw.cell (p := ⟨bz, oz + z.toNat * 4, none⟩) hbz).trans n0; have m1 := (hSw.cell (p := ⟨bz, oz + z.toNat * 4 + 1, none⟩) hbz).trans n1; have m2 := (hSw.cell (p := ⟨bz, oz + z.toNat * 4 + 2, none⟩) hbz).trans n2; have m3 := (hSw.cell (p := ⟨bz, oz + z.toNat * 4 + 3, none⟩) hbz).trans n3; go_simp; first | done | with_reducible rfl)
        simp only [Act.put, List.setIfInBounds_toArray, List.set_cons_zero, List.set_cons_succ]
        refine wpAnyH_take (i := 6) (oi := ⟨some 33, _, _, _, _, _⟩) (v := ?_) rfl (by kernel_rfl) (by kernel_rfl) (by kernel_rfl) (fun _ _ _ h => h) (Or.inl ⟨by rfl, ?_⟩) (by assumption) ?_
        case refine_2 => (intro w hSw; skip; go_simp; (try rw [if_pos (by omega)]); first | done | with_reducible rfl)
        simp only [Act.put, List.setIfInBounds_toArray, List.set_cons_zero, List.set_cons_succ]
        refine wpAnyH_take (i := 7) (oi := ⟨some 34, _, _, _, _, _⟩) (v := ?_) rfl (by kernel_rfl) (by kernel_rfl) (by kernel_rfl) (fun _ _ _ h => h) (Or.inl ⟨by rfl, ?_⟩) (by assumption) ?_
        case refine_2 => (intro w hSw; have p := (BN.keep hSw).cell; have v0 := (hSw.cell (p := ⟨bl, ol + k, none⟩) hbl).trans q0; have m0 := (hSw.cell (p := ⟨bz, oz + z.toNat * 4, none⟩) hbz).trans n0; have m1 := (hSw.cell (p := ⟨bz, oz + z.toNat * 4 + 1, none⟩) hbz).trans n1; have m2 := (hSw.cell (p := ⟨bz, oz + z.toNat * 4 + 2, none⟩) hbz).trans n2; have m3 := (hSw.cell (p := ⟨bz, oz + z.toNat * 4 + 3, none⟩) hbz).trans n3; go_simp; first | done | with_reducible rfl)
        simp only [Act.put, List.setIfInBounds_toArray, List.set_cons_zero, List.set_cons_succ]
        refine wpAnyH_ready (rs := [8]) (by kernel_rfl) (by simp) ?_
        refine AllReadyH.cons (o := ⟨some 9, _, _, _, _, _⟩) rfl (fun K hK => ?_) AllReadyH.nil
        go_simp
        go_wp2_with fail
        refine hK.out _ _ (by first | exact bl_alloc hHeld _ | exact hHeld) (fun hHeld => ?_)
        clear hK K
        try simp only [Act.put, List.setIfInBounds_toArray, List.set_cons_zero, List.set_cons_succ]
        refine wpAnyH_ready (rs := [9]) (by kernel_rfl) (by simp) ?_
        refine AllReadyH.cons (o := ⟨none, _, _, _, _, _⟩) rfl (fun K hK => ?_) AllReadyH.nil
        go_simp
        go_wp2_with fail
        refine hK.out _ _ (by first | exact bl_alloc hHeld _ | exact hHeld | exact (bl_alloc (Below.refl _ _) _).drew.drew) (fun hHeld => ?_)
        clear hK K
        try simp only [Act.put, List.setIfInBounds_toArray, List.set_cons_zero, List.set_cons_succ]
        refine wpAnyH_done (by kernel_rfl) ?_ _
        have BX := ((Blk.new wr 76 #[.int .i64 xk, .string xs, .int .i64 xa, .int .i64 xb]).drew).drew
        have BN6 := BN.keep hHeld
        have hO6 := (hO.keep hHeld).more (Nat.le_refl _) hHeld.size
        have L6 := bl_trans hL hHeld
        clear hO BN hL n0 n1 n2 n3 q0 cb
        generalize (wr.alloc (.cells #[.int .i64 xk, .string xs, .int .i64 xa, .int .i64 xb] 76)).drew.drew = w6 at BX hHeld BN6 hO6 L6 ⊢
        have px := BX.cell
        have hR6 := hO6.reads
        have CP := Lib.hid (sPutZ R Av cv xa w6 (by omega) hRis.out hR6)
        clear hR6
        by_cases k2 : xk = 2
        · subst k2
          have HY := Lib.hid (fun S => HY0.out S rfl)
          clear HY0 HN0
          go_wp2_with fail
          refine CP.out.mono ?_; rintro e w8 ⟨⟨v8, S8, rfl, hp8, hO8⟩, b8⟩
          have HS8 := Lib.hid (HY.out S8 hp8)
          clear hp8
          go_wp2_with fail
          go_roundw
          case rel => exact ⟨k + 1, S8, by omega, by go_num, HS8.out, hO8.more L6.size (Nat.le_refl _), BN6.keep b8, bl_trans L6 b8⟩
          case measure => simp [intOf]; omega
        have m2 : (xk == 2) = false := by simp [k2]
        by_cases k13 : xk = 1 ∨ xk = 3
        · have CT := sTakes 0 xs c w6 hxs hc0 hc1
          rw [show takeB 0 xs c = hasB xs c from rfl] at CT
          have hnd : ndTk (xk, xs, xa, xb) c = hasB xs c := by
            unfold ndTk
            rcases k13 with rfl | rfl <;> simp
          rw [hnd] at HY0 HN0
          obtain ⟨q, hq⟩ : ∃ q, hasB xs c = q := ⟨_, rfl⟩
          rw [hq] at CT HY0 HN0
          have CTT := Lib.hid CT
          clear CT hnd hq
          cases q
          · have HN := Lib.hid (HN0.out rfl)
            clear HY0 HN0
            rcases k13 with rfl | rfl
            · go_wp2_with fail
              refine CTT.out.mono ?_; rintro e w7 ⟨rfl, rfl⟩
              go_wp2_with fail
              go_roundw
              case rel => exact ⟨k + 1, R, by omega, by go_num, HN.out, hO6, BN6, L6⟩
              case measure => simp [intOf]; omega
            · go_wp2_with fail
              refine CTT.out.mono ?_; rintro e w7 ⟨rfl, rfl⟩
              go_wp2_with fail
              go_roundw
              case rel => exact ⟨k + 1, R, by omega, by go_num, HN.out, hO6, BN6, L6⟩
              case measure => simp [intOf]; omega
          · have HY := Lib.hid (fun S => HY0.out S rfl)
            clear HY0 HN0
            rcases k13 with rfl | rfl
            · go_wp2_with fail
              refine CTT.out.mono ?_; rintro e w7 ⟨rfl, rfl⟩
              go_wp2_with fail
              refine CP.out.mono ?_; rintro e w8 ⟨⟨v8, S8, rfl, hp8, hO8⟩, b8⟩
              have HS8 := Lib.hid (HY.out S8 hp8)
              clear hp8
              go_wp2_with fail
              go_roundw
              case rel => exact ⟨k + 1, S8, by omega, by go_num, HS8.out, hO8.more L6.size (Nat.le_refl _), BN6.keep b8, bl_trans L6 b8⟩
              case measure => simp [intOf]; omega
            · go_wp2_with fail
              refine CTT.out.mono ?_; rintro e w7 ⟨rfl, rfl⟩
              go_wp2_with fail
              refine CP.out.mono ?_; rintro e w8 ⟨⟨v8, S8, rfl, hp8, hO8⟩, b8⟩
              have HS8 := Lib.hid (HY.out S8 hp8)
              clear hp8
              go_wp2_with fail
              go_roundw
              case rel => exact ⟨k + 1, S8, by omega, by go_num, HS8.out, hO8.more L6.size (Nat.le_refl _), BN6.keep b8, bl_trans L6 b8⟩
              case measure => simp [intOf]; omega
        · have m1 : (xk == 1) = false := beq_eq_false_iff_ne.2 (fun h => k13 (.inl h))
          have m3 : (xk == 3) = false := beq_eq_false_iff_ne.2 (fun h => k13 (.inr h))
          have HN := Lib.hid (HN0.out (by unfold ndTk; simp only [m1, m2, m3]; rfl))
          clear HY0 HN0
          go_wp2_with fail
          go_roundw
          case rel => exact ⟨k + 1, R, by omega, by go_num, HN.out, hO6, BN6, L6⟩
          case measure => simp [intOf]; omega
    · obtain rfl : k = l.length := by omega
      rw [List.take_length] at hOn
      have HOn := Lib.hid hOn
      clear hOn
      go_wp2_with fail
      go_ret
      exact ⟨⟨_, R, rfl, HOn.out, hO⟩, hL⟩

end Go.Proofs.Ytnoekbgmhnhneaa
