/- Walk over the reference's l5Spread. -/
import Derived.Test.YtnoekbgmhnhneaaSpK
import Derived.Test.YtnoekbgmhnhneaaQ1
import Derived.Deep.RegionHeld3
import Derived.Deep.RegionWith
namespace Go.Proofs.Ytnoekbgmhnhneaa
open Go.RowKit

/-- It hands back a row that may be another's. -/
def RdZ (R : List Int → Prop) (e : Ending) (w' : World) : Prop := ∃ (A : Option Addr) (c : Nat) (S : List Int), e = .returned (.slice A S.length c) ∧ R S ∧ Reads w' w'.heap.size 1 A S.length (zints S)
set_option maxRecDepth 20000 in
set_option maxHeartbeats 4000000 in
theorem sSpread1 (zs : List (Int × ByteArray × Int × Int)) (R : List Int) (a s : Int) (A B0 : Option Addr) (cz cl : Nat) (w : World) (hz : zs.length ≤ 1048576) (hzx : ∀ z ∈ zs, z.2.1.size ≤ 9223372036854775807) (hl : R.length ≤ 65536) (hRi : Ris R) (hb : ∀ x, x ∈ R → 0 ≤ x ∧ x < zs.length) (hRz : Reads w w.heap.size 4 A zs.length (flat nodeC zs)) (hRl : Reads w w.heap.size 1 B0 R.length (zints R)) :
    Calls Try.prog 44 #[.agg #[.slice A zs.length cz], .slice B0 R.length cl, .int .i64 a, .int .i64 s] w fun e w' => RdZ (SpN zs a s R) e w' ∧ Below w.heap.size w w' := by
  have BN0 := Blk.new w 30 #[.slice A zs.length cz]
  have L0 := bl_alloc (Below.refl w.heap.size w) (.cells #[.slice A zs.length cz] 30)
  have hz' : (zs.length : Int) ≤ 1048576 := by omega
  have hl' : (R.length : Int) ≤ 65536 := by omega
  have HI := Lib.hid hRi
  have hR0 := rd_below hRl L0
  clear hRi
  go_enter Try.func44, Try.ntmps44
  go_wp2_with fail
  go_loopw [9, 10] (fun v i wr => ∃ (k : Nat) (S : List Int) (Av : Option Addr) (cv : Nat), k ≤ R.length ∧ i = .int .i64 k ∧ SpK zs a s R k S ∧ v = .slice Av S.length cv ∧ Reads wr wr.heap.size 1 Av S.length (zints S) ∧ Blk wr w.heap.size 30 #[.slice A zs.length cz] ∧ Below w.heap.size w wr) (fun _ i _ => R.length - (intOf i).toNat)
  case atStart => exact ⟨0, R, B0, cl, Nat.zero_le _, rfl, SpK.zero HI.out, rfl, hR0, BN0, L0⟩
  case round =>
    clear BN0 L0 hR0
    obtain ⟨k, S, Av, cv, hk, rfl, hS, rfl, hRd, BN, hL⟩ := hrel
    have cb := BN.cell
    by_cases hlt : k < R.length
    · have hlt' : (k : Int) < (R.length : Int) := by omega
      obtain ⟨bl, ol, hAe, hbl0, hcl⟩ := hRl.2 (by omega)
      subst hAe
      have hbl : bl < wr.heap.size := Nat.lt_of_lt_of_le hbl0 hL.size
      have q0 := (hL.cell (p := ⟨bl, ol + k, none⟩) hbl0).trans (hcl k _ (zints_get R hlt))
      have hzb := hb R[k] (List.getElem_mem hlt)
      have HN0 := Lib.hid (fun hn => hS.none hlt hn)
      have HO0 := Lib.hid (fun n T hn hp => hS.one (n := n) (T := T) hlt hn hp)
      have HT0 := Lib.hid (fun n m T U hn hp hq => hS.two (n := n) (m := m) (T := T) (U := U) hlt hn hp hq)
      have hRis := Lib.hid hS.1
      have hlenS := hS.2.2
      clear hcl hS
      generalize R[k] = z at q0 HN0 HO0 HT0 hzb
      obtain ⟨z0, z1⟩ := hzb
      have hzn : z.toNat < zs.length := by omega
      obtain ⟨bz, oz, hAe, hbz0, n0, n1, n2, n3⟩ := rd_node (hRz.below (hL.mono (Nat.le_refl _))) hzn
      subst hAe
      rw [ndAt_get hzn] at n0 n1 n2 n3
      have hxs := hzx (ndAt zs z) (by rw [← ndAt_get hzn]; exact List.getElem_mem _)
      have hbz : bz < wr.heap.size := Nat.lt_of_lt_of_le hbz0 hL.size
      have HN1 := Lib.hid (fun h h2 => HN0.out (nxt_none (a := a) (s := s) h h2))
      have HO1 := Lib.hid (fun h h2 T => HO0.out _ T (nxt_one (a := a) (s := s) h h2))
      have HT1 := Lib.hid (fun h T U => HT0.out _ _ T U (nxt_two (a := a) (s := s) h))
      clear HN0 HO0 HT0
      generalize ndAt zs z = x at n0 n1 n2 n3 hxs HN1 HO1 HT1
      obtain ⟨xk, xs, xa, xb⟩ := x
      simp only at n0 n1 n2 n3 hxs
      go_wp2_with fail
      refine wp_region_held_drew (S := (fun y => Below wr.heap.size wr y)) (by kernel_rfl) ?_ (fun hHeld => ?_)
      · exact (Below.refl _ _).drew
      refine wpAnyH_take (i := 0) (oi := ⟨some 19, _, _, _, _, _⟩) (v := ?_) rfl (by kernel_rfl) (by kernel_rfl) (by kernel_rfl) (fun _ _ _ h => h) (Or.inl ⟨by rfl, ?_⟩) (by assumption) ?_
      case refine_2 => (intro w hSw; skip; go_simp; first | done | with_reducible rfl)
      simp only [Act.put, List.setIfInBounds_toArray, List.set_cons_zero, List.set_cons_succ]
      refine wpAnyH_take (i := 1) (oi := ⟨some 20, _, _, _, _, _⟩) (v := ?_) rfl (by kernel_rfl) (by kernel_rfl) (by kernel_rfl) (fun _ _ _ h => h) (Or.inl ⟨by rfl, ?_⟩) (by assumption) ?_
      case refine_2 => (intro w hSw; have p := (BN.keep hSw).cell; have v0 := (hSw.cell (p := ⟨bl, ol + k, none⟩) hbl).trans q0; have m0 := (hSw.cell (p := ⟨bz, oz + z.toNat * 4, none⟩) hbz).trans n0; have m1 := (hSw.cell (p := ⟨bz, oz + z.toNat * 4 + 1, none⟩) hbz).trans n1; have m2 := (hSw.cell (p := ⟨bz, oz + z.toNat * 4 + 2, none⟩) hbz).trans n2; have m3 := (hSw.cell (p := ⟨bz, oz + z.toNat * 4 + 3, none⟩) hbz).trans n3; go_simp; first | done | with_reducible rfl)
      simp only [Act.put, List.setIfInBounds_toArray, List.set_cons_zero, List.set_cons_succ]
      refine wpAnyH_take (i := 2) (oi := ⟨some 21, _, _, _, _, _⟩) (v := ?_) rfl (by kernel_rfl) (by kernel_rfl) (by kernel_rfl) (fun _ _ _ h => h) (Or.inl ⟨by rfl, ?_⟩) (by assumption) ?_
      case refine_2 => (intro w hSw; skip; go_simp; first | done | with_reducible rfl)
      simp only [Act.put, List.setIfInBounds_toArray, List.set_cons_zero, List.set_cons_succ]
      refine wpAnyH_take (i := 3) (oi := ⟨some 22, _, _, _, _, _⟩) (v := ?_) rfl (by kernel_rfl) (by kernel_rfl) (by kernel_rfl) (fun _ _ _ h => h) (Or.inl ⟨by rfl, ?_⟩) (by assumption) ?_
      case refine_2 => (intro w hSw; skip; go_simp; first | done | with_reducible rfl)
      simp only [Act.put, List.setIfInBounds_toArray, List.set_cons_zero, List.set_cons_succ]
      refine wpAnyH_take (i := 4) (oi := ⟨some 23, _, _, _, _, _⟩) (v := ?_) rfl (by kernel_rfl) (by kernel_rfl) (by kernel_rfl) (fun _ _ _ h => h) (Or.inl ⟨by rfl, ?_⟩) (by assumption) ?_
      case refine_2 => (intro w hSw; skip; go_simp; (try rw [if_pos (by omega)]); first | done | with_reducible rfl)
      simp only [Act.put, List.setIfInBounds_toArray, List.set_cons_zero, List.set_cons_succ]
      refine wpAnyH_take (i := 5) (oi := ⟨some 24, _, _, _, _, _⟩) (v := ?_) rfl (by kernel_rfl) (by kernel_rfl) (by kernel_rfl) (fun _ _ _ h => h) (Or.inl ⟨by rfl, ?_⟩) (by assumption) ?_
      case refine_2 => (intro w hSw; have p := (BN.keep hSw).cell; have v0 := (hSw.cell (p := ⟨bl, ol + k, none⟩) hbl).trans q0; have m0 := (hSw.cell (p := ⟨bz, oz + z.toNat * 4, none⟩) hbz).trans n0; have m1 := (hSw.cell (p := ⟨bz, oz + z.toNat * 4 + 1, none⟩) hbz).trans n1; have m2 := (hSw.cell (p := ⟨bz, oz + z.toNat * 4 + 2, none⟩) hbz).trans n2; have m3 := (hSw.cell (p := ⟨bz, oz + z.toNat * 4 + 3, none⟩) hbz).trans n3; go_simp; first | done | with_reducible rfl)
      simp only [Act.put, List.setIfInBounds_toArray, List.set_cons_zero, List.set_cons_succ]
      refine wpAnyH_take (i := 6) (oi := ⟨some 25, _, _, _, _, _⟩) (v := ?_) rfl (by kernel_rfl) (by kernel_rfl) (by kernel_rfl) (fun _ _ _ h => h) (Or.inl ⟨by rfl, ?_⟩) (by assumption) ?_
      case refine_2 => (intro w hSw; skip; go_simp; (try rw [if_pos (by omega)]); first | done | with_reducible rfl)
      simp only [Act.put, List.setIfInBounds_toArray, List.set_cons_zero, List.set_cons_succ]
      refine wpAnyH_take (i := 7) (oi := ⟨some 26, _, _, _, _, _⟩) (v := ?_) rfl (by kernel_rfl) (by kernel_rfl) (by kernel_rfl) (fun _ _ _ h => h) (Or.inl ⟨by rfl, ?_⟩) (by assumption) ?_
      case refine_2 => (intro w hSw; have p := (BN.keep hSw).cell; have v0 := (hSw.cell (p := ⟨bl, ol + k, none⟩) hbl).trans q0; have m0 := (hSw.cell (p := ⟨bz, oz + z.toNat * 4, none⟩) hbz).trans n0; have m1 := (hSw.cell (p := ⟨bz, oz + z.toNat * 4 + 1, none⟩) hbz).trans n1; have m2 := (hSw.cell (p := ⟨bz, oz + z.toNat * 4 + 2, none⟩) hbz).trans n2; have m3 := (hSw.cell (p := ⟨bz, oz + z.toNat * 4 + 3, none⟩) hbz).trans n3; go_simp; first | done | with_reducible rfl)
      simp only [Act.put, List.setIfInBounds_toArray, List.set_cons_zero, List.set_cons_succ]
      refine wpAnyH_ready (rs := [8]) (by kernel_rfl) (by simp) ?_
      refine AllReadyH.cons (o := ⟨some 11, _, _, _, _, _⟩) rfl (fun K hK => ?_) AllReadyH.nil
      go_simp
      go_wp2_with fail
      refine hK.out _ _ (by first | exact bl_alloc hHeld _ | exact hHeld) (fun hHeld => ?_)
      clear hK K
      try simp only [Act.put, List.setIfInBounds_toArray, List.set_cons_zero, List.set_cons_succ]
      refine wpAnyH_ready (rs := [9]) (by kernel_rfl) (by simp) ?_
      refine AllReadyH.cons (o := ⟨none, _, _, _, _, _⟩) rfl (fun K hK => ?_) AllReadyH.nil
      go_simp
      go_wp2_with fail
      refine hK.out _ _ (by first | exact bl_alloc hHeld _ | exact hHeld | exact (bl_alloc (Below.refl _ _) _).drew) (fun hHeld => ?_)
      clear hK K
      try simp only [Act.put, List.setIfInBounds_toArray, List.set_cons_zero, List.set_cons_succ]
      refine wpAnyH_done (by kernel_rfl) ?_ _
      have BX := ((Blk.new wr 76 #[.int .i64 xk, .string xs, .int .i64 xa, .int .i64 xb]).drew)
      have BN5 := BN.keep hHeld
      have hR5 := rd_below hRd hHeld
      have L5 := bl_trans hL hHeld
      clear hRd BN hL n0 n1 n2 n3 q0 cb
      generalize (wr.alloc (.cells #[.int .i64 xk, .string xs, .int .i64 xa, .int .i64 xb] 76)).drew = w5 at BX hHeld BN5 hR5 L5 ⊢
      have px := BX.cell
      by_cases k4 : xk = 4
      · subst k4
        have HE := Lib.hid (HT1.out rfl)
        clear HN1 HO1 HT1
        have CP := Lib.hid (sPutZ S Av cv xa w5 (by omega) hRis.out hR5)
        have BX0 := BX
        go_wp2_with fail
        refine CP.out.mono ?_; rintro e w6 ⟨⟨v6, S6, rfl, hp6, hO6⟩, b6⟩
        have hl6 := hp6.2.2
        have HP6 := Lib.hid hp6
        clear hp6
        obtain ⟨A6, c6, rfl⟩ := hO6.form
        have CQ := Lib.hid (sPutZ S6 A6 c6 xb w6 (by omega) HP6.out.1 hO6.reads)
        have px6 := (BX.keep b6).cell
        clear px
        go_wp2_with fail
        refine CQ.out.mono ?_; rintro e w7 ⟨⟨v7, S7, rfl, hp7, hO7⟩, b7⟩
        have HP7 := Lib.hid (HE.out S6 S7 HP6.out hp7)
        clear hp7
        obtain ⟨A7, c7, rfl⟩ := hO7.form
        have hRd7 := hO7.reads
        go_wp2_with fail
        go_roundw
        case rel => exact ⟨k + 1, S7, A7, c7, by omega, by go_num, HP7.out, rfl, hRd7, (BN5.keep b6).keep b7, bl_trans (bl_trans L5 b6) b7⟩
        case measure => simp [intOf]; omega
      have m4 : (xk == 4) = false := by simp [k4]
      by_cases k5 : xk = 5
      · subst k5
        by_cases ha : a = 0
        · subst ha
          have HE := Lib.hid (fun T hp => HO1.out (by decide) (.inl ⟨rfl, rfl⟩) T hp)
          clear HN1 HO1 HT1
          have CP := Lib.hid (sPutZ S Av cv xa w5 (by omega) hRis.out hR5)
          go_wp2_with fail
          refine CP.out.mono ?_; rintro e w6 ⟨⟨v6, S6, rfl, hp6, hO6⟩, b6⟩
          have HP6 := Lib.hid (HE.out S6 hp6)
          clear hp6
          have px6 := (BX.keep b6).cell
          clear px
          obtain ⟨A6, c6, rfl⟩ := hO6.form
          have hRd6 := hO6.reads
          go_wp2_with fail
          go_roundw
          case rel => exact ⟨k + 1, S6, A6, c6, by omega, by go_num, HP6.out, rfl, hRd6, BN5.keep b6, bl_trans L5 b6⟩
          case measure => simp [intOf]; omega
        · have ma : (a == 0) = false := by simp [ha]
          have HE := Lib.hid (HN1.out (by decide) (fun h => h.elim (fun h => ha h.2) (fun h => absurd h.1 (by decide))))
          clear HN1 HO1 HT1
          go_wp2_with fail
          go_roundw
          case rel => exact ⟨k + 1, S, Av, cv, by omega, by go_num, HE.out, rfl, hR5, BN5, L5⟩
          case measure => simp [intOf]; omega
      have m5 : (xk == 5) = false := by simp [k5]
      by_cases k6 : xk = 6
      · subst k6
        by_cases ha : a = s
        · subst ha
          have HE := Lib.hid (fun T hp => HO1.out (by decide) (.inr ⟨rfl, rfl⟩) T hp)
          clear HN1 HO1 HT1
          have CP := Lib.hid (sPutZ S Av cv xa w5 (by omega) hRis.out hR5)
          go_wp2_with fail
          refine CP.out.mono ?_; rintro e w6 ⟨⟨v6, S6, rfl, hp6, hO6⟩, b6⟩
          have HP6 := Lib.hid (HE.out S6 hp6)
          clear hp6
          have px6 := (BX.keep b6).cell
          clear px
          obtain ⟨A6, c6, rfl⟩ := hO6.form
          have hRd6 := hO6.reads
          go_wp2_with fail
          go_roundw
          case rel => exact ⟨k + 1, S6, A6, c6, by omega, by go_num, HP6.out, rfl, hRd6, BN5.keep b6, bl_trans L5 b6⟩
          case measure => simp [intOf]; omega
        · have ma : (a == s) = false := by simp [ha]
          have HE := Lib.hid (HN1.out (by decide) (fun h => h.elim (fun h => absurd h.1 (by decide)) (fun h => ha h.2)))
          clear HN1 HO1 HT1
          go_wp2_with fail
          go_roundw
          case rel => exact ⟨k + 1, S, Av, cv, by omega, by go_num, HE.out, rfl, hR5, BN5, L5⟩
          case measure => simp [intOf]; omega
      have m6 : (xk == 6) = false := by simp [k6]
      have HE := Lib.hid (HN1.out k4 (fun h => h.elim (fun h => k5 h.1) (fun h => k6 h.1)))
      clear HN1 HO1 HT1
      go_wp2_with fail
      go_roundw
      case rel => exact ⟨k + 1, S, Av, cv, by omega, by go_num, HE.out, rfl, hR5, BN5, L5⟩
      case measure => simp [intOf]; omega
    · obtain rfl : k = R.length := by omega
      have HS := Lib.hid hS.all
      clear hS
      go_wp2_with fail
      go_ret
      exact ⟨⟨_, _, S, rfl, HS.out, hRd⟩, hL⟩

end Go.Proofs.Ytnoekbgmhnhneaa
