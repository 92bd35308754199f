/- Walk over the reference's NfaMatches. -/
import Derived.Test.YtnoekbgmhnhneaaNmP
import Derived.Test.YtnoekbgmhnhneaaSpT
import Derived.Test.YtnoekbgmhnhneaaOnS
import Derived.Deep.RegionHeld3
import Derived.Deep.RegionWith
import Derived.Deep.CutRange
import Derived.BigQuiet
namespace Go.Proofs.Ytnoekbgmhnhneaa
open Go.RowKit

set_option maxRecDepth 20000 in
set_option maxHeartbeats 4000000 in
theorem sNfaMatches (zs : List (Int × ByteArray × Int × Int)) (s : ByteArray) (A : Option Addr) (cz : Nat) (w : World) (hz : zs.length ≤ 1048576) (hzx : ∀ z ∈ zs, z.2.1.size ≤ 9223372036854775807) (hs : s.size ≤ 1048576) (hRz : Reads w w.heap.size 4 A zs.length (flat nodeC zs)) :
    Calls Try.prog 28 #[.agg #[.slice A zs.length cz], .string s] w fun e w' => RetBo (NmB zs s) e ∧ Below w.heap.size w w' := by
  have BN0 := Blk.new w 30 #[.slice A zs.length cz]
  have L0 := bl_alloc (Below.refl w.heap.size w) (.cells #[.slice A zs.length cz] 30)
  have L1 := bl_alloc L0 (.cells #[] 3)
  have BN1 := BN0.alloc (.cells #[] 3)
  have hz' : (zs.length : Int) ≤ 1048576 := by omega
  have hs' : (s.size : Int) ≤ 1048576 := by omega
  obtain ⟨j0, hj, hy0, hy1, hy2⟩ := info_parts info_intz
  go_enter Try.func28, Try.ntmps28
  have hO0 := World.ownsRow_made (e := 3) (size := 1) (base := w.heap.size + 1) (w.alloc (.cells #[.slice A zs.length cz] 30)) #[] 0 (by rw [alloc_size]; exact Nat.le_refl _) (by simp [maxLen]) (by simp)
  rw [alloc_size] at hO0
  clear BN0 L0
  go_wp2_with fail
  go_loopw [5, 6] (fun v i wr => ∃ (k : Nat) (l : List Int), k ≤ s.size + 1 ∧ i = .int .i64 k ∧ NmNo zs s k ∧ Whl (k ≤ s.size) (LRow zs s k l ∧ wr.ownsRow (w.heap.size + 1) 3 1 v l.length (zints l)) ∧ Blk wr w.heap.size 30 #[.slice A zs.length cz] ∧ Below w.heap.size w wr) (fun _ i _ => s.size + 1 - (intOf i).toNat)
  case atStart => exact ⟨0, [], Nat.zero_le _, rfl, NmNo.zero, fun _ => ⟨rfl, hO0⟩, BN1, L1⟩
  case round =>
    clear BN1 L1 hO0
    obtain ⟨k, l, hk, rfl, hno, hlO, BN, hL⟩ := hrel
    have hLs := hL.size
    by_cases hlt : k ≤ s.size
    · obtain ⟨hl, hO⟩ := hlO hlt
      clear hlO
      obtain ⟨Al, cl, rfl⟩ := (Row.mk hO).form
      have hll := hl.len_le
      have hlt' : (k : Int) ≤ (s.size : Int) := by omega
      have HLR := Lib.hid hl
      have HNO := Lib.hid hno
      clear hl hno
      have BN0 := BN.drew.alloc (.cells #[.int .i64 0] 3)
      have hO0 := hO.drew
      obtain ⟨l2, hl2⟩ : ∃ l2, l2 = l ++ [(0 : Int)] := ⟨_, rfl⟩
      have HN2 := Lib.hid (show l.length + 1 = l2.length by rw [hl2]; simp)
      have hlen2 : l2.length ≤ 1048577 := by rw [← HN2.out]; omega
      have HL2 := Lib.hid hl2
      clear hl2
      have CS := Lib.hid fun A' c' w h h' => sSpread zs l2 k s.size A A' cz c' w hz hzx hlen2 h h'
      have hrs : wr.drew.heap.size = wr.heap.size := rfl
      have hZ : Reads (wr.drew.alloc (.cells #[.int .i64 0] 3)) (wr.heap.size + 1) 1 (some ⟨wr.heap.size, 0, none⟩) 1 [.int .i64 0] := ⟨rfl, fun _ => ⟨_, _, rfl, Nat.lt_succ_self _, fun j u hu => by
        rw [Nat.zero_add]
        exact ((Blk.new wr.drew 3 #[.int .i64 0]).cell j).trans (by simpa using hu)⟩⟩
      go_upto_region 5 with fail
      refine wp_region_held_drew (S := (fun y => Blk y w.heap.size 30 #[.slice A zs.length cz])) (by kernel_rfl) ?_ (fun hHeld => ?_)
      · exact BN.drew
      refine wpAnyH_take (i := 0) (oi := ⟨some 15, _, _, _, _, _⟩) (v := ?_) rfl (by kernel_rfl) (by kernel_rfl) (by kernel_rfl) (fun _ _ _ h => h) (Or.inl ⟨by rfl, ?_⟩) (by assumption) ?_
      case refine_2 => (intro w hSw; have p := hSw.cell; go_simp; first | done | with_reducible rfl)
      simp only [Act.put, List.setIfInBounds_toArray, List.set_cons_zero, List.set_cons_succ]
      refine wpAnyH_take (i := 1) (oi := ⟨some 16, _, _, _, _, _⟩) (v := ?_) rfl (by kernel_rfl) (by kernel_rfl) (by kernel_rfl) (fun _ _ _ h => h) (Or.inl ⟨by rfl, ?_⟩) (by assumption) ?_
      case refine_2 => (intro w hSw; skip; go_simp; first | done | with_reducible rfl)
      simp only [Act.put, List.setIfInBounds_toArray, List.set_cons_zero, List.set_cons_succ]
      refine wpAnyH_take (i := 4) (oi := ⟨some 19, _, _, _, _, _⟩) (v := ?_) rfl (by kernel_rfl) (by kernel_rfl) (by kernel_rfl) (fun _ _ _ h => h) (Or.inl ⟨by rfl, ?_⟩) (by assumption) ?_
      case refine_2 => (intro w hSw; skip; go_simp; first | done | with_reducible rfl)
      simp only [Act.put, List.setIfInBounds_toArray, List.set_cons_zero, List.set_cons_succ]
      refine wpAnyH_take (i := 5) (oi := ⟨some 20, _, _, _, _, _⟩) (v := ?_) rfl (by kernel_rfl) (by kernel_rfl) (by kernel_rfl) (fun _ _ _ h => h) (Or.inl ⟨by rfl, ?_⟩) (by assumption) ?_
      case refine_2 => (intro w hSw; skip; go_simp; first | done | with_reducible rfl)
      simp only [Act.put, List.setIfInBounds_toArray, List.set_cons_zero, List.set_cons_succ]
      refine wpAnyH_take (i := 6) (oi := ⟨some 21, _, _, _, _, _⟩) (v := ?_) rfl (by kernel_rfl) (by kernel_rfl) (by kernel_rfl) (fun _ _ _ h => h) (Or.inl ⟨by rfl, ?_⟩) (by assumption) ?_
      case refine_2 => (intro w hSw; skip; go_simp; first | done | with_reducible rfl)
      simp only [Act.put, List.setIfInBounds_toArray, List.set_cons_zero, List.set_cons_succ]
      refine wpAnyH_ready (rs := [2]) (by kernel_rfl) (by simp) ?_
      refine AllReadyH.cons (o := ⟨some 17, _, _, _, _, _⟩) rfl (fun K hK => ?_) AllReadyH.nil
      go_simp
      go_wp2_with fail
      refine hK.out _ _ (BN0) (fun hHeld => ?_)
      clear hK K
      try simp only [Act.put, List.setIfInBounds_toArray, List.set_cons_zero, List.set_cons_succ]
      refine wpAnyH_ready (rs := [3]) (by kernel_rfl) (by simp) ?_
      refine AllReadyH.cons (o := ⟨some 18, _, _, _, _, _⟩) rfl (fun K hK => ?_) AllReadyH.nil
      refine step_append_any _ rfl (.tmp 16) (.tmp 17) 25 rfl (w.heap.size + 1) 3 j0 (.int .i64 0) 1 8 Try.underlying25 hj hy0 hy1 hy2 rfl (by decide) _ _ _ rfl (hO0.alloc _) (wr.heap.size + 1) _ _ _ [.int .i64 0] rfl hZ (fun u hu => by obtain rfl := List.mem_singleton.1 hu; rfl) (by unfold maxLen; omega) (by omega) (by show _ ≤ (wr.alloc _).heap.size; rw [alloc_size]; omega) ?_
      intro v' w5 hO5 hg5 _
      rw [zints_snoc, ← HL2.out, HN2.out] at hO5
      obtain ⟨A5, c5, rfl⟩ := (Row.mk hO5).form
      have L5 := bl_gr (bl_alloc hL.drew (.cells #[.int .i64 0] 3)) hg5 (fun j e => by have := (hO0.lt j e).1; omega)
      have hR5 := (Row.mk hO5).reads
      have hB5 := BN0.grown hg5 (fun e => by have := (hO0.lt _ e.symm).1; omega)
      refine hK.out _ _ (hB5) (fun hHeld => ?_)
      clear hK K
      try simp only [Act.put, List.setIfInBounds_toArray, List.set_cons_zero, List.set_cons_succ]
      refine wpAnyH_ready (rs := [7]) (by kernel_rfl) (by simp) ?_
      refine AllReadyH.cons (o := ⟨some 22, _, _, _, _, _⟩) rfl (fun K hK => ?_) AllReadyH.nil
      go_simp
      refine (CS.out _ _ _ (rd_below hRz L5) hR5).mono ?_; rintro e w6 ⟨⟨A6, c6, R6, rfl, hR6, hRd6⟩, b6⟩
      go_wp2_with fail
      refine hK.out _ _ (hB5.keep b6) (fun hHeld => ?_)
      clear hK K
      try simp only [Act.put, List.setIfInBounds_toArray, List.set_cons_zero, List.set_cons_succ]
      refine wpAnyH_take (i := 8) (oi := ⟨some 5, _, _, _, _, _⟩) (v := ?_) rfl (by kernel_rfl) (by kernel_rfl) (by kernel_rfl) (fun _ _ _ h => h) (Or.inl ⟨by rfl, ?_⟩) (by assumption) ?_
      case refine_2 => (intro w hSw; skip; go_simp; first | done | with_reducible rfl)
      simp only [Act.put, List.setIfInBounds_toArray, List.set_cons_zero, List.set_cons_succ]
      refine wpAnyH_done (by kernel_rfl) ?_ _
      have L6 := bl_trans L5 b6
      have BN6 := hHeld
      have hR6' : SprO zs k s.size (l ++ [0]) R6 := by rw [← HL2.out]; exact hR6
      have hlen6 := hR6'.len_le
      have hin6 := fun x hx => hR6'.in_ (x := x) hx
      have HR6 := Lib.hid hR6'
      clear hHeld hR5 hO5 hg5 hB5 L5 b6 hR6 hR6' CS BN0 hO0 hZ hrs BN hL hO hlen2
      have a7 := Below.refl w6.heap.size w6
      go_wp2_with fail
      go_loopw [7] (fun i wq => ∃ j : Nat, j ≤ R6.length ∧ i = .int .i64 j ∧ No7 zs R6 j ∧ Below w6.heap.size w6 wq) (fun i _ => R6.length - (intOf i).toNat)
      case atStart => exact ⟨0, Nat.zero_le _, rfl, No7.zero zs R6, a7⟩
      case round =>
        clear a7
        obtain ⟨j, hj7, rfl, h7, hM⟩ := hrel
        have cb := (BN6.keep hM).cell
        by_cases hltj : j < R6.length
        · have hltj' : (j : Int) < (R6.length : Int) := by omega
          obtain ⟨bl, ol, hAe, hbl0, hcl⟩ := hRd6.2 (by omega)
          subst hAe
          have q0 := (hM.cell (p := ⟨bl, ol + j, none⟩) hbl0).trans (hcl j _ (zints_get R6 hltj))
          have hzi := hin6 _ (List.getElem_mem hltj)
          have HY0 := Lib.hid (fun (h : (ndAt zs R6[j]).1 = 7) => NmB.yes hlt HLR.out HR6.out (List.getElem_mem hltj) h)
          have HN0 := Lib.hid (fun hn => h7.next hltj hn)
          clear hcl h7
          generalize R6[j] = z at q0 hzi HY0 HN0
          obtain ⟨z0, z1⟩ := hzi
          have hzn : z.toNat < zs.length := by omega
          obtain ⟨bz, oz, hAe, hbz0, n0, _, _, _⟩ := rd_node ((rd_below hRz L6).below hM) hzn
          subst hAe
          rw [ndAt_get hzn] at n0
          generalize ndAt zs z = x at n0 HY0 HN0
          obtain ⟨xk, xs, xa, xb⟩ := x
          simp only at n0 HY0 HN0
          by_cases k7 : xk = 7
          · subst k7
            have HY := Lib.hid (HY0.out rfl)
            clear HY0 HN0
            go_wp2_with fail
            go_quiet (fail)
            go_wp2_with fail
            go_ret
            exact ⟨⟨true, rfl, HY.out⟩, bl_trans L6 (bl_drewN hM _)⟩
          · have m7 : (xk == 7) = false := by simp [k7]
            have HN := Lib.hid (HN0.out k7)
            clear HY0 HN0 k7
            go_wp2_with fail
            go_quiet (fail)
            go_wp2_with fail
            go_roundw
            case rel => exact ⟨j + 1, by omega, by go_num, HN.out, bl_drewN hM _⟩
            case measure => simp [intOf]; omega
        · obtain rfl : j = R6.length := by omega
          have HX := Lib.hid (HNO.out.next HLR.out HR6.out h7.all)
          clear h7
          have BN8 := BN6.keep hM
          have L8 := bl_trans L6 hM
          have hR8 := rd_below hRd6 hM
          have hs8 := hM.size
          have L6s := L6.size
          clear cb BN6 L6 hRd6
          by_cases hlk : k < s.size
          · have hlk' : (k : Int) < (s.size : Int) := by omega
            have hb0 : (s[k].toNat : Int) < 256 := by have := s[k].toNat_lt; omega
            have hch := chB_get hlk
            have HNX := Lib.hid (fun m (hm : OnR zs (chB s k) R6 m) => HLR.out.next HR6.out hm)
            rw [hch] at HNX
            clear hch
            have CO := Lib.hid fun w h h' => sOnward zs R6 (s[k].toNat : Int) A A6 cz c6 w hz hzx (by omega) (by omega) hb0 h h'
            go_wp2_with fail
            refine wp_region_held_drew (S := (fun y => Blk y w.heap.size 30 #[.slice A zs.length cz])) (by kernel_rfl) ?_ (fun hHeld => ?_)
            · exact BN8.drew
            refine wpAnyH_take (i := 0) (oi := ⟨some 43, _, _, _, _, _⟩) (v := ?_) rfl (by kernel_rfl) (by kernel_rfl) (by kernel_rfl) (fun _ _ _ h => h) (Or.inl ⟨by rfl, ?_⟩) (by assumption) ?_
            case refine_2 => (intro w hSw; have p := hSw.cell; go_simp; first | done | with_reducible rfl)
            simp only [Act.put, List.setIfInBounds_toArray, List.set_cons_zero, List.set_cons_succ]
            refine wpAnyH_take (i := 1) (oi := ⟨some 44, _, _, _, _, _⟩) (v := ?_) rfl (by kernel_rfl) (by kernel_rfl) (by kernel_rfl) (fun _ _ _ h => h) (Or.inl ⟨by rfl, ?_⟩) (by assumption) ?_
            case refine_2 => (intro w hSw; skip; go_simp; first | done | with_reducible rfl)
            simp only [Act.put, List.setIfInBounds_toArray, List.set_cons_zero, List.set_cons_succ]
            refine wpAnyH_take (i := 2) (oi := ⟨some 45, _, _, _, _, _⟩) (v := ?_) rfl (by kernel_rfl) (by kernel_rfl) (by kernel_rfl) (fun _ _ _ h => h) (Or.inl ⟨by rfl, ?_⟩) (by assumption) ?_
            case refine_2 => (intro w hSw; skip; go_simp; first | done | with_reducible rfl)
            simp only [Act.put, List.setIfInBounds_toArray, List.set_cons_zero, List.set_cons_succ]
            refine wpAnyH_take (i := 3) (oi := ⟨some 46, _, _, _, _, _⟩) (v := ?_) rfl (by kernel_rfl) (by kernel_rfl) (by kernel_rfl) (fun _ _ _ h => h) (Or.inl ⟨by rfl, ?_⟩) (by assumption) ?_
            case refine_2 => (intro w hSw; skip; go_simp; first | done | with_reducible rfl)
            simp only [Act.put, List.setIfInBounds_toArray, List.set_cons_zero, List.set_cons_succ]
            refine wpAnyH_take (i := 4) (oi := ⟨some 47, _, _, _, _, _⟩) (v := ?_) rfl (by kernel_rfl) (by kernel_rfl) (by kernel_rfl) (fun _ _ _ h => h) (Or.inl ⟨by rfl, ?_⟩) (by assumption) ?_
            case refine_2 => (intro w hSw; skip; go_simp; first | done | with_reducible rfl)
            simp only [Act.put, List.setIfInBounds_toArray, List.set_cons_zero, List.set_cons_succ]
            refine wpAnyH_ready (rs := [5]) (by kernel_rfl) (by simp) ?_
            refine AllReadyH.cons (o := ⟨some 48, _, _, _, _, _⟩) rfl (fun K hK => ?_) AllReadyH.nil
            go_simp
            refine (CO.out _ (rd_below hRz L8.drew) hR8.drew).mono ?_; rintro e w9 ⟨⟨v9, m9, rfl, hm9, hO9⟩, b9⟩
            go_wp2_with fail
            refine hK.out _ _ (BN8.drew.keep b9) (fun hHeld => ?_)
            clear hK K
            try simp only [Act.put, List.setIfInBounds_toArray, List.set_cons_zero, List.set_cons_succ]
            refine wpAnyH_take (i := 6) (oi := ⟨some 5, _, _, _, _, _⟩) (v := ?_) rfl (by kernel_rfl) (by kernel_rfl) (by kernel_rfl) (fun _ _ _ h => h) (Or.inl ⟨by rfl, ?_⟩) (by assumption) ?_
            case refine_2 => (intro w hSw; skip; go_simp; first | done | with_reducible rfl)
            simp only [Act.put, List.setIfInBounds_toArray, List.set_cons_zero, List.set_cons_succ]
            refine wpAnyH_done (by kernel_rfl) ?_ _
            have L9 := bl_trans (L8.drew) b9
            have BN9 := hHeld
            have HL9 := Lib.hid (HNX.out _ hm9)
            clear hHeld b9 hm9
            go_wp2_with fail
            go_roundw
            case rel => exact ⟨k + 1, m9, by omega, by go_num, HX.out, fun _ => ⟨HL9.out, own_base hO9.1 BN8.drew.lt⟩, BN9, L9⟩
            case measure => simp [intOf]; omega
          · have hlk' : ¬ (k : Int) < (s.size : Int) := by omega
            go_wp2_with fail
            go_roundw
            case rel => exact ⟨k + 1, [], by omega, by go_num, HX.out, fun h => absurd h (by omega), BN8, L8⟩
            case measure => simp [intOf]; omega
    · obtain rfl : k = s.size + 1 := by omega
      have hn : ¬ ((s.size : Int) + 1 ≤ (s.size : Int)) := by omega
      clear hlO
      have HB := Lib.hid (NmB.no hno)
      clear hno
      go_wp2_with fail
      go_ret
      exact ⟨⟨false, rfl, HB.out⟩, hL⟩

end Go.Proofs.Ytnoekbgmhnhneaa
