/- Walk over the reference's l4Put: a number put into a rising row of numbers. -/
import Derived.Test.YtnoekbgmhnhneaaQ0
namespace Go.Proofs.Ytnoekbgmhnhneaa
open Go.RowKit

set_option maxRecDepth 20000 in
set_option maxHeartbeats 4000000 in
theorem sPutZ (l : List Int) (A : Option Addr) (c : Nat) (n : Int) (w : World) (hl : l.length ≤ 2097152) (hA : Ris l) (hR : Reads w w.heap.size 1 A l.length (zints l)) :
    Calls Try.prog 43 #[.slice A l.length c, .int .i64 n] w fun e w' => RetZ (PutZ l n) w e w' ∧ Below w.heap.size w w' := by
  obtain ⟨i0, hi, hz0, hz1, hz2⟩ := info_parts info_intz
  have hl' : (l.length : Int) ≤ 2097152 := by omega
  have HA := Lib.hid hA
  have L0 := bl_alloc (Below.refl w.heap.size w) (.cells #[] 3)
  have hO0 := World.ownsRow_made (e := 3) (size := 1) w #[] 0 (Nat.le_refl _) (by simp [maxLen]) (by simp)
  have hR0 := hR.alloc (Nat.le_refl _) (.cells #[] 3)
  clear hA
  go_enter Try.func43, Try.ntmps43
  go_wp2_with (at_builtin; refine wpList_append_any _ rfl _ _ 25 rfl w.heap.size 3 i0 (.int .i64 0) 1 8 Try.underlying25 hi hz0 hz1 hz2 rfl (by decide) _ 0 [] rfl hO0 w.heap.size _ l.length c (zints l) rfl hR0 (zints_mem l) (by unfold maxLen; omega) (by omega) (by simp) ?_)
  intro v1 w1 hO1 hg1 _
  have L1 : Below w.heap.size w w1 := L0.grown hg1 L0.size (fun q e => (hO0.lt q e).1)
  clear hO0 hR0 L0 hg1
  obtain ⟨A1, c1, rfl⟩ := (Row.mk hO1).form
  have s1 := L1.size
  go_wp2_with fail
  go_loopw [6] (fun iv wr => ∃ (i : Nat) (v : Int), i ≤ l.length ∧ iv = .int .i64 v ∧ v = (i : Int) ∧ (∀ j (hj : j < l.length), i ≤ j → n < l[j]) ∧ wr = w1) (fun iv _ => (intOf iv).toNat)
  case atStart => exact ⟨l.length, _, Nat.le_refl _, rfl, rfl, fun j hj h => by omega, rfl⟩
  case round =>
    obtain ⟨i, v, hil, rfl, hv, hrr, rfl⟩ := hrel
    have hR1 := (Row.mk hO1).reads
    by_cases h0 : 0 < i
    · subst hv
      have h0' : (0 : Int) < (i : Int) := by omega
      obtain ⟨b, off, hAe, hb, hc⟩ := hR1.2 (by omega)
      subst hAe
      have q0 := hc (i - 1) _ (zints_get l (by omega))
      have ew : IntKind.i64.wrap ((i : Int) - 1) = ((i - 1 : Nat) : Int) := by rw [IntKind.wrap_i64]; omega
      have e1 : ((i : Int) - 1).toNat = i - 1 := by omega
      have e2 : ((i : Int) - 1) = ((i - 1 : Nat) : Int) := by omega
      have hx := hrr
      by_cases hge : n ≤ l[i - 1]
      · by_cases heq : l[i - 1] = n
        · have HM := Lib.hid (PutZ.old HA.out (show n ∈ l by rw [← heq]; exact List.getElem_mem _))
          have beq : (l[i - 1] == n) = true := by simp [heq]
          clear hx hc hrr heq
          generalize l[i - 1] = y at q0 hge beq
          go_wp2_with fail
          go_ret
          exact ⟨⟨_, l, rfl, HM.out, Row.mk hO1⟩, L1⟩
        · have beq : (l[i - 1] == n) = false := beq_eq_false_iff_ne.2 heq
          have HN := Lib.hid (show ∀ j (hj : j < l.length), i - 1 ≤ j → n < l[j] from fun j hj h => by
            rcases Nat.lt_or_ge j i with h1 | h1
            · have : j = i - 1 := by omega
              subst this
              omega
            · exact hrr j hj h1)
          clear hx hc hrr heq
          generalize l[i - 1] = y at q0 hge beq
          go_wp2_with fail
          go_roundw
          case rel => exact ⟨i - 1, _, by omega, rfl, by first | rfl | exact ew | exact e2, HN.out, by first | rfl | trivial⟩
          case measure => simp [intOf]; omega
      · have hlt : l[i - 1] < n := by omega
        have HP := Lib.hid (PutZ.ins HA.out hil hrr (fun _ => hlt))
        clear hx hc hrr
        generalize l[i - 1] = y at q0 hge hlt
        go_wp2_with (at_builtin; refine wpList_push rfl _ _ 25 rfl w.heap.size 3 i0 (.int .i64 0) 1 8 Try.underlying25 hi hz0 hz1 hz2 rfl (by decide) _ _ _ rfl hO1 _ rfl rfl rfl (by omega) (by omega) s1 ?_)
        intro v2 w2 hO2 hg2
        obtain ⟨A2, c2, rfl⟩ := (Row.mk hO2).form
        have L2 := L1.grown hg2 s1 (fun q e => (hO1.lt q e).1)
        rw [show zints l ++ [Value.int .i64 0] = zints (shZ l l.length) by rw [zints_snoc, shZ_top]] at hO2
        have ek : IntKind.i64.wrap (((l.length : Int) + 1) - 1) = (l.length : Int) := by rw [IntKind.wrap_i64]; omega
        clear hO1 hR1 hg2
        go_wp2_with fail
        go_loopw [7] (fun kv wr => ∃ k : Nat, i ≤ k ∧ k ≤ l.length ∧ kv = .int .i64 k ∧ wr.ownsRow w.heap.size 3 1 (.slice A2 (l.length + 1) c2) (l.length + 1) (zints (shZ l k)) ∧ Below w.heap.size w wr) (fun kv _ => (intOf kv).toNat)
        case atStart => exact ⟨l.length, hil, Nat.le_refl _, by first | rfl | (rw [ek]), hO2, L2⟩
        case round =>
          obtain ⟨k, hik, hkl, rfl, hO, hL⟩ := hrel
          obtain ⟨g, hAe, hg0, hgs⟩ := own_blk hO (by omega)
          subst hAe
          by_cases hgt : i < k
          · have hgt' : (i : Int) < (k : Int) := by omega
            have p0 : wr.cell? ⟨g, k - 1, none⟩ = some (.int .i64 (l[k - 1]'(by omega))) := by
              rw [hO.cellAt (k - 1) (by omega)]
              unfold zints
              rw [List.getElem?_map, shZ_get (by omega) hkl]
              rfl
            have f0 := hO.frozenAt k
            have ew : IntKind.i64.wrap ((k : Int) - 1) = ((k - 1 : Nat) : Int) := by rw [IntKind.wrap_i64]; omega
            have e1 : ((k : Int) - 1).toNat = k - 1 := by omega
            have e2 : ((k : Int) - 1) = ((k - 1 : Nat) : Int) := by omega
            have hS := (hO.stored k (.int .i64 (l[k - 1]'(by omega)))).1
            rw [zints_set, shZ_step (by omega) hkl] at hS
            have HS := Lib.hid hS
            have hc0 := hO.cellAt k (by omega)
            have hk2 : (zints (shZ l k))[k]? = some (.int .i64 ((shZ l k)[k]'(by rw [shZ_len hkl]; omega))) := zints_get _ _
            rw [hk2] at hc0
            clear hS hk2
            generalize (shZ l k)[k]'(by rw [shZ_len hkl]; omega) = y0 at hc0
            generalize l[k - 1]'(by omega) = y at p0 HS
            go_wp2_with fail
            go_roundw
            case rel => exact ⟨k - 1, by omega, by omega, by first | rfl | rw [ew], HS.out, bl_setb hL hg0 _⟩
            case measure => simp [intOf]; omega
          · obtain rfl : k = i := by omega
            have hgt' : ¬ (k : Int) < (k : Int) := by omega
            have f0 := hO.frozenAt k
            have hS := (hO.stored k (.int .i64 n)).1
            rw [zints_set, shZ_end n hkl] at hS
            have HS := Lib.hid hS
            have hc0 := hO.cellAt k (by omega)
            have hk2 : (zints (shZ l k))[k]? = some (.int .i64 ((shZ l k)[k]'(by rw [shZ_len hkl]; omega))) := zints_get _ _
            rw [hk2] at hc0
            clear hS hk2
            generalize (shZ l k)[k]'(by rw [shZ_len hkl]; omega) = y0 at hc0
            have hlen : (l.take k ++ n :: l.drop k).length = l.length + 1 := by first | (simp; done) | (simp; omega)
            have HLEN := Lib.hid hlen
            clear hlen
            go_wp2_with fail
            go_ret
            refine ⟨⟨_, _, rfl, HP.out, ?_⟩, bl_setb hL hg0 _⟩
            rw [HLEN.out]
            exact Row.mk HS.out
    · obtain rfl : i = 0 := by omega
      obtain rfl : v = 0 := by omega
      have HP := Lib.hid (PutZ.ins HA.out hil hrr (fun h => absurd h (by omega)))
      clear hrr h0 hil hv
      have hil := Nat.zero_le l.length
      go_wp2_with (at_builtin; refine wpList_push rfl _ _ 25 rfl w.heap.size 3 i0 (.int .i64 0) 1 8 Try.underlying25 hi hz0 hz1 hz2 rfl (by decide) _ _ _ rfl hO1 _ rfl rfl rfl (by omega) (by omega) s1 ?_)
      intro v2 w2 hO2 hg2
      obtain ⟨A2, c2, rfl⟩ := (Row.mk hO2).form
      have L2 := L1.grown hg2 s1 (fun q e => (hO1.lt q e).1)
      rw [show zints l ++ [Value.int .i64 0] = zints (shZ l l.length) by rw [zints_snoc, shZ_top]] at hO2
      have ek : IntKind.i64.wrap (((l.length : Int) + 1) - 1) = (l.length : Int) := by rw [IntKind.wrap_i64]; omega
      clear hO1 hR1 hg2
      go_wp2_with fail
      go_loopw [7] (fun kv wr => ∃ k : Nat, 0 ≤ k ∧ k ≤ l.length ∧ kv = .int .i64 k ∧ wr.ownsRow w.heap.size 3 1 (.slice A2 (l.length + 1) c2) (l.length + 1) (zints (shZ l k)) ∧ Below w.heap.size w wr) (fun kv _ => (intOf kv).toNat)
      case atStart => exact ⟨l.length, hil, Nat.le_refl _, by first | rfl | (rw [ek]), hO2, L2⟩
      case round =>
        obtain ⟨k, hik, hkl, rfl, hO, hL⟩ := hrel
        obtain ⟨g, hAe, hg0, hgs⟩ := own_blk hO (by omega)
        subst hAe
        by_cases hgt : 0 < k
        · have hgt' : (0 : Int) < (k : Int) := by omega
          have p0 : wr.cell? ⟨g, k - 1, none⟩ = some (.int .i64 (l[k - 1]'(by omega))) := by
            rw [hO.cellAt (k - 1) (by omega)]
            unfold zints
            rw [List.getElem?_map, shZ_get (by omega) hkl]
            rfl
          have f0 := hO.frozenAt k
          have ew : IntKind.i64.wrap ((k : Int) - 1) = ((k - 1 : Nat) : Int) := by rw [IntKind.wrap_i64]; omega
          have e1 : ((k : Int) - 1).toNat = k - 1 := by omega
          have e2 : ((k : Int) - 1) = ((k - 1 : Nat) : Int) := by omega
          have hS := (hO.stored k (.int .i64 (l[k - 1]'(by omega)))).1
          rw [zints_set, shZ_step (by omega) hkl] at hS
          have HS := Lib.hid hS
          have hc0 := hO.cellAt k (by omega)
          have hk2 : (zints (shZ l k))[k]? = some (.int .i64 ((shZ l k)[k]'(by rw [shZ_len hkl]; omega))) := zints_get _ _
          rw [hk2] at hc0
          clear hS hk2
          generalize (shZ l k)[k]'(by rw [shZ_len hkl]; omega) = y0 at hc0
          generalize l[k - 1]'(by omega) = y at p0 HS
          go_wp2_with fail
          go_roundw
          case rel => exact ⟨k - 1, by omega, by omega, by first | rfl | rw [ew], HS.out, bl_setb hL hg0 _⟩
          case measure => simp [intOf]; omega
        · obtain rfl : k = 0 := by omega
          have hgt' : ¬ (0 : Int) < (0 : Int) := by omega
          have f0 := hO.frozenAt 0
          have hS := (hO.stored 0 (.int .i64 n)).1
          rw [zints_set, shZ_end n hkl] at hS
          have HS := Lib.hid hS
          have hc0 := hO.cellAt 0 (by omega)
          have hk2 : (zints (shZ l 0))[0]? = some (.int .i64 ((shZ l 0)[0]'(by rw [shZ_len hkl]; omega))) := zints_get _ _
          rw [hk2] at hc0
          clear hS hk2
          generalize (shZ l 0)[0]'(by rw [shZ_len hkl]; omega) = y0 at hc0
          have hlen : (l.take 0 ++ n :: l.drop 0).length = l.length + 1 := by first | (simp; done) | (simp; omega)
          have HLEN := Lib.hid hlen
          clear hlen
          go_wp2_with fail
          go_ret
          refine ⟨⟨_, _, rfl, HP.out, ?_⟩, bl_setb hL hg0 _⟩
          rw [HLEN.out]
          exact Row.mk HS.out

end Go.Proofs.Ytnoekbgmhnhneaa
