/- Walk over the program's Onward. -/
import Derived.Test.YtnoekbgmhnhneaaOnSort
import Derived.Test.YtnoekbgmhnhneaaQ0
import Derived.Test.YtnoekbgmhnhneaaShelfB
import Derived.Test.YtnoekbgmhnhneaaNfaI
import Derived.Lib.Bytealg
import Derived.Lib.IndexAny
import Derived.ChangeKeysEq
namespace Go.Proofs.Ytnoekbgmhnhneaa
open Go.RowKit

theorem hasB_ix (zs : ByteArray) (c : Int) : hasB zs c = decide (0 ≤ Lib.indexByte zs.data.toList c.toNat.toUInt8) := by
  unfold hasB
  have hi := Lib.contains_iff_indexByte zs.data.toList c.toNat.toUInt8
  generalize Lib.indexByte zs.data.toList c.toNat.toUInt8 = x at hi ⊢
  generalize zs.data.toList.contains c.toNat.toUInt8 = b at hi ⊢
  cases b <;> simp_all
theorem onW_no {zs : List (Int × ByteArray × Int × Int)} {c : Int} {l : List Int} {k : Nat} (h : k < l.length) (hn : onF zs c l[k] = none) : onW zs c (l.take (k + 1)) = onW zs c (l.take k) := by
  rw [onW_succ zs c h, hn]
  simp
theorem onW_yes {zs : List (Int × ByteArray × Int × Int)} {c : Int} {l : List Int} {k : Nat} {n : Int} (h : k < l.length) (hn : onF zs c l[k] = some n) : onW zs c (l.take (k + 1)) = onW zs c (l.take k) ++ [n] := by
  rw [onW_succ zs c h, hn]
  rfl
set_option maxRecDepth 20000 in
set_option maxHeartbeats 4000000 in
theorem iOnward (zs : List (Int × ByteArray × Int × Int)) (l : List Int) (c : Int) (A B0 : Option Addr) (cz cl : Nat) (w : World) (hz : zs.length ≤ 1048576) (hzx : ∀ z ∈ zs, z.2.1.size ≤ 9223372036854775807) (hl : l.length ≤ 1048576) (hRz : Reads w w.heap.size 4 A zs.length (flat nodeC zs)) (hRl : Reads w w.heap.size 1 B0 l.length (zints l)) :
    Calls Try.prog 27 #[.agg #[.slice A zs.length cz], .slice B0 l.length cl, .int .u8 c] w fun e w' => RetZ (OnR zs c l) w e w' ∧ Below w.heap.size w w' := by
  have BN0 := Blk.new w 30 #[.slice A zs.length cz]
  have L0 := bl_alloc (Below.refl w.heap.size w) (.cells #[.slice A zs.length cz] 30)
  have hz' : (zs.length : Int) ≤ 1048576 := by omega
  have hl' : (l.length : Int) ≤ 1048576 := by omega
  obtain ⟨i0, hi, hz0, hz1, hz2⟩ := info_parts info_intz
  go_enter Try.func27, Try.ntmps27
  go_wp2_with fail
  go_loopw [7, 13] (fun v i wr => ∃ (k : Nat) (W : List Int), k ≤ l.length ∧ i = .int .i64 k ∧ W = onW zs c (l.take k) ∧ wr.ownsRow (w.heap.size + 1) 3 1 v W.length (zints W) ∧ Blk wr w.heap.size 30 #[.slice A zs.length cz] ∧ Below w.heap.size w wr) (fun _ i _ => l.length - (intOf i).toNat)
  case atStart => exact ⟨0, [], Nat.zero_le _, rfl, by simp [onW], World.ownsRow_nil _ _ _ _, BN0, L0⟩
  case round =>
    clear BN0 L0
    obtain ⟨k, W, hk, rfl, hW, L6O, BN, hL⟩ := hrel
    have cb := BN.cell
    have hBl := BN.lt
    have L6B := Below.refl wr.heap.size wr
    by_cases hlt : k < l.length
    · have hlt' : (k : Int) < (l.length : Int) := by omega
      obtain ⟨bl, ol, hAe, hbl0, hcl⟩ := hRl.2 (by omega)
      subst hAe
      have hbl : bl < wr.heap.size := Nat.lt_of_lt_of_le hbl0 hL.size
      have q0 := (hL.cell (p := ⟨bl, ol + k, none⟩) hbl0).trans (hcl k _ (zints_get l hlt))
      have HS0 := Lib.hid (fun hn => onW_no (zs := zs) (c := c) hlt hn)
      have HP0 := Lib.hid (fun n hn => onW_yes (zs := zs) (c := c) (n := n) hlt hn)
      have hlenW : W.length ≤ k := by
        have := onW_len zs c (l.take k)
        rw [← hW, List.length_take] at this
        omega
      have hLs := hL.size
      clear hcl
      generalize l[k] = z at q0 HS0 HP0
      have cIn := fun w => iWithin z 0 ((zs.length : Int) - 1) w
      obtain ⟨q, hq⟩ : ∃ q, inI z 0 ((zs.length : Int) - 1) = q := ⟨_, rfl⟩
      rw [hq] at cIn
      have CIn := Lib.hid cIn
      have ew : IntKind.i64.wrap ((zs.length : Int) - 1) = (zs.length : Int) - 1 := by rw [IntKind.wrap_i64]; omega
      clear cIn
      cases q
      · have HN := Lib.hid (HS0.out (onF_out hq))
        clear hq HS0 HP0
        go_wp2_with fail
        refine (CIn.out _).mono ?_; rintro e y0 ⟨rfl, rfl⟩
        go_wp2_with fail
        go_roundw
        case rel => exact ⟨k + 1, W, by omega, by go_num, by rw [HN.out]; exact hW, L6O, BN.keep L6B, bl_trans hL L6B⟩
        case measure => simp [intOf]; omega
      · obtain ⟨z0, z1⟩ := inI_iff.1 hq
        have hzn : z.toNat < zs.length := by omega
        have hzl : z < (zs.length : Int) := by omega
        obtain ⟨bz, oz, hAe, hbz0, n0, n1, n2, n3⟩ := rd_node (hRz.below (hL.mono (Nat.le_refl _))) hzn
        subst hAe
        rw [ndAt_get hzn] at n0 n1 n2 n3
        have hxs := hzx (ndAt zs z) (by rw [← ndAt_get hzn]; exact List.getElem_mem _)
        have HY0 := Lib.hid (fun h => HP0.out _ (onF_yes (c := c) hq h))
        have HN0 := Lib.hid (fun h => HS0.out (onF_no (c := c) h))
        have hbz : bz < wr.heap.size := Nat.lt_of_lt_of_le hbz0 hL.size
        generalize ndAt zs z = x at n0 n1 n2 n3 hxs HY0 HN0
        obtain ⟨xk, xs, xa, xb⟩ := x
        simp only at n0 n1 n2 n3 hxs
        clear HS0 HP0 hq
        have CB := Lib.hid fun w => Try.strings_IndexByte xs c w
        have L6B' := bl_alloc L6B (.cells #[.int .i64 xk, .string xs, .int .i64 xa, .int .i64 xb] 76)
        have BX := Blk.new wr 76 #[.int .i64 xk, .string xs, .int .i64 xa, .int .i64 xb]
        have px := BX.cell
        have hO' := L6O.alloc (.cells #[.int .i64 xk, .string xs, .int .i64 xa, .int .i64 xb] 76)
        clear L6B
        have L6B := L6B'
        clear L6B'
        clear L6O
        have L6O := hO'
        clear hO'
        have hs6 := L6B.size
        go_wp2_with fail
        refine (CIn.out _).mono ?_; rintro e y0 ⟨rfl, rfl⟩
        by_cases k2 : xk = 2
        · subst k2
          have HY := Lib.hid (HY0.out rfl)
          clear HY0 HN0
          go_wp2_with (at_builtin; refine wpList_push rfl _ _ 25 rfl (w.heap.size + 1) 3 i0 (.int .i64 0) 1 8 Try.underlying25 hi hz0 hz1 hz2 rfl (by decide) _ _ _ rfl L6O _ rfl (by first | rfl | (rw [alloc_size]; rfl)) rfl (by omega) (by omega) (by omega) ?_)
          intro v' w2 hO3 hg3
          have hO4 := Row.mk hO3
          have L7 := bl_trans hL L6B
          have hL2 := L7.grown hg3 L7.size (fun q e => by have := (L6O.lt q e).1; omega)
          have hBN2 := BN.keep L6B
          have hv1 := L6O
          go_wp2_with fail
          go_roundw
          case rel => exact ⟨k + 1, W ++ [xa], by omega, by go_num, by rw [hW]; exact HY.out.symm, by rw [List.length_append, ← zints_snoc, hW]; exact hO3, hBN2.grown hg3 (fun e => by have := (L6O.lt _ e.symm).1; omega), hL2⟩
          case measure => simp [intOf]; omega
        have m2 : (xk == 2) = false := by simp [k2]
        by_cases k13 : xk = 1 ∨ xk = 3
        · have hnd : ndTk (xk, xs, xa, xb) c = hasB xs c := by
            unfold ndTk
            rcases k13 with rfl | rfl <;> simp
          rw [hnd, hasB_ix] at HY0 HN0
          have cB := CB.out
          generalize Lib.indexByte xs.data.toList c.toNat.toUInt8 = y at cB HY0 HN0
          have CC := Lib.hid cB
          clear cB CB hnd
          by_cases hq : 0 ≤ y
          · have HY := Lib.hid (HY0.out (by simp [hq]))
            clear HY0 HN0
            rcases k13 with rfl | rfl
            · go_wp2_with fail
              refine (CC.out _).mono ?_; rintro e w7 ⟨rfl, rfl⟩
              go_wp2_with (at_builtin; refine wpList_push rfl _ _ 25 rfl (w.heap.size + 1) 3 i0 (.int .i64 0) 1 8 Try.underlying25 hi hz0 hz1 hz2 rfl (by decide) _ _ _ rfl L6O _ rfl (by first | rfl | (rw [alloc_size]; rfl)) rfl (by omega) (by omega) (by omega) ?_)
              intro v' w2 hO3 hg3
              have hO4 := Row.mk hO3
              have L7 := bl_trans hL L6B
              have hL2 := L7.grown hg3 L7.size (fun q e => by have := (L6O.lt q e).1; omega)
              have hBN2 := BN.keep L6B
              have hv1 := L6O
              go_wp2_with fail
              go_roundw
              case rel => exact ⟨k + 1, W ++ [xa], by omega, by go_num, by rw [hW]; exact HY.out.symm, by rw [List.length_append, ← zints_snoc, hW]; exact hO3, hBN2.grown hg3 (fun e => by have := (L6O.lt _ e.symm).1; omega), hL2⟩
              case measure => simp [intOf]; omega
            · go_wp2_with fail
              refine (CC.out _).mono ?_; rintro e w7 ⟨rfl, rfl⟩
              go_wp2_with (at_builtin; refine wpList_push rfl _ _ 25 rfl (w.heap.size + 1) 3 i0 (.int .i64 0) 1 8 Try.underlying25 hi hz0 hz1 hz2 rfl (by decide) _ _ _ rfl L6O _ rfl (by first | rfl | (rw [alloc_size]; rfl)) rfl (by omega) (by omega) (by omega) ?_)
              intro v' w2 hO3 hg3
              have hO4 := Row.mk hO3
              have L7 := bl_trans hL L6B
              have hL2 := L7.grown hg3 L7.size (fun q e => by have := (L6O.lt q e).1; omega)
              have hBN2 := BN.keep L6B
              have hv1 := L6O
              go_wp2_with fail
              go_roundw
              case rel => exact ⟨k + 1, W ++ [xa], by omega, by go_num, by rw [hW]; exact HY.out.symm, by rw [List.length_append, ← zints_snoc, hW]; exact hO3, hBN2.grown hg3 (fun e => by have := (L6O.lt _ e.symm).1; omega), hL2⟩
              case measure => simp [intOf]; omega
          · have HN := Lib.hid (HN0.out (by simp [hq]))
            clear HY0 HN0
            rcases k13 with rfl | rfl
            · go_wp2_with fail
              refine (CC.out _).mono ?_; rintro e w7 ⟨rfl, rfl⟩
              go_wp2_with fail
              go_roundw
              case rel => exact ⟨k + 1, W, by omega, by go_num, by rw [HN.out]; exact hW, L6O, BN.keep L6B, bl_trans hL L6B⟩
              case measure => simp [intOf]; omega
            · go_wp2_with fail
              refine (CC.out _).mono ?_; rintro e w7 ⟨rfl, rfl⟩
              go_wp2_with fail
              go_roundw
              case rel => exact ⟨k + 1, W, by omega, by go_num, by rw [HN.out]; exact hW, L6O, BN.keep L6B, bl_trans hL L6B⟩
              case measure => simp [intOf]; omega
        · have m1 : (xk == 1) = false := beq_eq_false_iff_ne.2 (fun h => k13 (.inl h))
          have m3 : (xk == 3) = false := beq_eq_false_iff_ne.2 (fun h => k13 (.inr h))
          have HN := Lib.hid (HN0.out (by unfold ndTk; simp only [m1, m2, m3]; rfl))
          clear HY0 HN0
          go_wp2_with fail
          go_roundw
          case rel => exact ⟨k + 1, W, by omega, by go_num, by rw [HN.out]; exact hW, L6O, BN.keep L6B, bl_trans hL L6B⟩
          case measure => simp [intOf]; omega
    · obtain rfl : k = l.length := by omega
      rw [List.take_length] at hW
      have hWl := onW_len zs c l
      rw [← hW] at hWl
      have C1 := Lib.hid (sortZ (Row.mk L6O) (by omega))
      go_wp2_with fail
      refine C1.out.mono ?_; rintro e w1 ⟨rfl, hR1, hg1⟩
      have hL1 := hL.grown hg1 hL.size (fun q e => by have := (L6O.lt q e).1; omega)
      rw [← srtZ_len W] at hR1
      have C2 := Lib.hid (compactZ hR1 (by rw [srtZ_len]; omega))
      go_wp2_with fail
      refine C2.out.mono ?_; rintro e w2 ⟨v', rfl, hR2, hg2⟩
      have hL2 := hL1.grown hg2 hL1.size (fun q e => by have := (hR1.1.lt q e).1; omega)
      go_wp2_with fail
      go_ret
      exact ⟨⟨_, Lib.compact (srtZ W), rfl, by rw [hW]; exact cpt_onR, hR2.more (Nat.le_succ _) (Nat.le_refl _)⟩, hL2⟩

end Go.Proofs.Ytnoekbgmhnhneaa
