/- Walks over the reference's matrices of yes and no: l4Add, l4Then, l4Many, l4One. -/
import Derived.Test.YtnoekbgmhnhneaaEndsS
import Derived.BigGuard
namespace Go.Proofs.Ytnoekbgmhnhneaa
open Go.RowKit

theorem matk_cast {m m' : Nat} (h : m = m') {w : World} {lo hi : Nat} {v : Value} {g : Nat → Nat} {M : Nat → Nat → Bool} (hM : MatK w lo hi v m m g M) : MatK w lo hi v m' m' g M := h ▸ hM

set_option maxRecDepth 20000 in
set_option maxHeartbeats 2000000 in
theorem sAdd (m b c b2 c2 lo hi lo2 hi2 : Nat) (g g2 : Nat → Nat) (M X : Nat → Nat → Bool) (w : World) (hm : m ≤ 1048577) (hM0 : MatK w lo hi (.slice (some ⟨b, 0, none⟩) m c) m m g M) (hX0 : MatK w lo2 hi2 (.slice (some ⟨b2, 0, none⟩) m c2) m m g2 X) (hd : hi ≤ lo2) :
    Calls Try.prog 121 #[.slice (some ⟨b, 0, none⟩) m c, .slice (some ⟨b2, 0, none⟩) m c2] w fun e w' => (e = .returned (.tuple #[]) ∧ ∃ M', MatK w' lo hi (.slice (some ⟨b, 0, none⟩) m c) m m g M' ∧ AddI m M X M' m 0) ∧ Below lo w w' := by
  have hmm : (m : Int) ≤ 1048577 := by omega
  go_enter Try.func121, Try.ntmps121
  go_wp2_with fail
  go_loopw [4] (fun i wr => ∃ (k : Nat) (M' : Nat → Nat → Bool), k ≤ m ∧ i = .int .i64 k ∧ MatK wr lo hi (.slice (some ⟨b, 0, none⟩) m c) m m g M' ∧ MatK wr lo2 hi2 (.slice (some ⟨b2, 0, none⟩) m c2) m m g2 X ∧ AddI m M X M' k 0 ∧ Below lo w wr) (fun i _ => m - (intOf i).toNat)
  case atStart => exact ⟨0, M, Nat.zero_le _, rfl, hM0, hX0, AddI.zero _ _ _, Below.refl _ _⟩
  case round =>
    obtain ⟨k, M1, hk, rfl, hM1, hX1, hA1, hL1⟩ := hrel
    by_cases hlt : k < m
    · have hlt' : (k : Int) < (m : Int) := by omega
      go_wp2_with fail
      obtain ⟨wo, rfl⟩ : ∃ wo : World, wo = wr := ⟨_, rfl⟩
      go_loopw [5] (fun i wr => ∃ (q : Nat) (M' : Nat → Nat → Bool), k ≤ q ∧ q ≤ m ∧ i = .int .i64 q ∧ MatK wr lo hi (.slice (some ⟨b, 0, none⟩) m c) m m g M' ∧ MatK wr lo2 hi2 (.slice (some ⟨b2, 0, none⟩) m c2) m m g2 X ∧ AddI m M X M' k q ∧ Below lo w wr) (fun i _ => m - (intOf i).toNat)
      case atStart => exact ⟨k, M1, Nat.le_refl _, hk, rfl, hM1, hX1, hA1.start, hL1⟩
      case round =>
        obtain ⟨q, M2, hkq, hq, rfl, hM2, hX2, hA2, hL2⟩ := hrel
        by_cases hlt2 : q < m
        · have hlt2' : (q : Int) < (m : Int) := by omega
          have p1 := hM2.row hlt
          have p2 := hM2.cell hlt hlt2
          have p3 := hM2.frozen hlt q
          have p4 := hX2.row hlt
          have p5 := hX2.cell hlt hlt2
          have hgk := hM2.lt hlt
          have hS := (hM2.set hlt (j := q) (M2 k q || X k q)).drew
          have hSX := (hX2.farb (b := g k) (j := q) (.inl (by omega)) (.bool (M2 k q || X k q))).drew
          have hSL := (bl_setb (j := q) hL2 hgk.1 (.bool (M2 k q || X k q))).drew
          have hSA := hA2.put hkq
          clear hM1 hX1 hA1 hL1
          generalize updM M2 k q (M2 k q || X k q) = M3 at hS hSA
          have HS := Lib.hid hS
          have HSA := Lib.hid hSA
          clear hS hSA hA2 hM2 hX2
          cases hv : M2 k q
          · rw [hv] at p2 HS hSX hSL
            rw [Bool.false_or] at HS hSX hSL
            clear hv
            generalize X k q = xb at *
            go_wp2_with fail
            go_big_region
            go_wp2_with fail
            go_roundw
            case rel => exact ⟨q + 1, M3, by omega, by omega, by go_num, HS.out, hSX, HSA.out, hSL⟩
            case measure => (simp [intOf] <;> omega)
          · rw [hv] at p2 HS hSX hSL
            rw [Bool.true_or] at HS hSX hSL
            clear hv p5
            go_wp2_with fail
            go_big_region
            go_wp2_with fail
            go_roundw
            case rel => exact ⟨q + 1, M3, by omega, by omega, by go_num, HS.out, hSX, HSA.out, hSL⟩
            case measure => (simp [intOf] <;> omega)
        · obtain rfl : q = m := by omega
          go_wp2_with fail
          go_roundw
          case rel => exact ⟨k + 1, M2, by omega, by go_num, hM2, hX2, hA2.row, hL2⟩
          case measure => (simp [intOf] <;> omega)
    · obtain rfl : k = m := by omega
      go_wp2_with fail
      refine bodyPost_end (results_none rfl _ _ _) rfl ?_
      exact ⟨⟨rfl, M1, hM1, hA1⟩, hL1⟩

set_option maxRecDepth 20000 in
set_option maxHeartbeats 4000000 in
theorem sThen (s : ByteArray) (m : Nat) (ba ca la ha : Nat) (ga : Nat → Nat) (Ma : Nat → Nat → Bool) (ra : Rel) (bb cb lb hb : Nat) (gb : Nat → Nat) (Mb : Nat → Nat → Bool) (rb : Rel) (w : World) (hm : Hid (s.size + 1 = m)) (hs : s.size ≤ 1048576) (hA : MatK w la ha (.slice (some ⟨ba, 0, none⟩) m ca) m m ga Ma) (hB : MatK w lb hb (.slice (some ⟨bb, 0, none⟩) m cb) m m gb Mb) (iA : IsM m Ma ra) (iB : IsM m Mb rb) (fA : Fwd m ra) (fB : Fwd m rb) :
    Calls Try.prog 119 #[.slice (some ⟨ba, 0, none⟩) m ca, .slice (some ⟨bb, 0, none⟩) m cb, .string s] w fun e w' => RetM m (compR ra rb) w e w' ∧ Below w.heap.size w w' := by
  have C := sNone s w hs
  rw [hm.out] at C
  have CC := Lib.hid C
  clear C
  have hm1 : m ≤ 1048577 := by have := hm.out; omega
  have hm0 : 0 < m := by have := hm.out; omega
  have hmm : (m : Int) ≤ 1048577 := by omega
  go_enter Try.func119, Try.ntmps119
  go_wp2_with fail
  refine CC.out.mono ?_; rintro e w1 ⟨⟨v, g, M0, rfl, hM0, hI0⟩, b1⟩
  obtain ⟨b, c, rfl, _, _, _⟩ := hM0.form hm0
  go_wp2_with fail
  go_loopw [8] (fun i wr => ∃ (k : Nat) (M : Nat → Nat → Bool), k ≤ m ∧ i = .int .i64 k ∧ MatK wr w.heap.size w1.heap.size (.slice (some ⟨b, 0, none⟩) m c) m m g M ∧ ThenI m ra rb M k k 0 ∧ Below w.heap.size w wr ∧ w1.heap.size ≤ wr.heap.size) (fun i _ => m - (intOf i).toNat)
  case atStart => exact ⟨0, M0, Nat.zero_le _, rfl, hM0, ThenI.zero hI0 _ _, b1, Nat.le_refl _⟩
  case round =>
    obtain ⟨i, M1, hi, rfl, hM1, hT1, hL1, hz1⟩ := hrel
    by_cases hlt : i < m
    · have hlt' : (i : Int) < (m : Int) := by omega
      go_wp2_with fail
      obtain ⟨wo, rfl⟩ : ∃ wo : World, wo = wr := ⟨_, rfl⟩
      go_loopw [9] (fun i' wr => ∃ (k : Nat) (M : Nat → Nat → Bool), i ≤ k ∧ k ≤ m ∧ i' = .int .i64 k ∧ MatK wr w.heap.size w1.heap.size (.slice (some ⟨b, 0, none⟩) m c) m m g M ∧ ThenI m ra rb M i k k ∧ Below w.heap.size w wr ∧ w1.heap.size ≤ wr.heap.size) (fun i _ => m - (intOf i).toNat)
      case atStart => exact ⟨i, M1, Nat.le_refl _, hi, rfl, hM1, hT1.start, hL1, hz1⟩
      case round =>
        obtain ⟨k, M2, hik, hk, rfl, hM2, hT2, hL2, hz2⟩ := hrel
        clear hM1 hT1 hL1 hz1
        by_cases hlt2 : k < m
        · have hlt2' : (k : Int) < (m : Int) := by omega
          have hik' : (i : Int) ≤ (k : Int) := by omega
          go_wp2_with fail
          obtain ⟨wo2, rfl⟩ : ∃ wo2 : World, wo2 = wr := ⟨_, rfl⟩
          go_loopw [10] (fun i' wr => ∃ (j : Nat) (M : Nat → Nat → Bool), k ≤ j ∧ j ≤ m ∧ (Ma i k = false → j = k) ∧ i' = .int .i64 j ∧ MatK wr w.heap.size w1.heap.size (.slice (some ⟨b, 0, none⟩) m c) m m g M ∧ ThenI m ra rb M i k j ∧ Below w.heap.size w wr ∧ w1.heap.size ≤ wr.heap.size) (fun i _ => m - (intOf i).toNat)
          case atStart => exact ⟨k, M2, Nat.le_refl _, hk, fun _ => rfl, rfl, hM2, hT2, hL2, hz2⟩
          case round =>
            obtain ⟨j, M3, hkj, hj, hne, rfl, hM3, hT3, hL3, hz3⟩ := hrel
            clear hM2 hT2 hL2 hz2
            by_cases hlt3 : j < m
            · have hlt3' : (j : Int) < (m : Int) := by omega
              have a1 := (hA.keep hL3).row hlt
              have a2 := (hA.keep hL3).cell hlt hlt2
              cases hv : Ma i k
              · rw [hv] at a2
                obtain rfl := hne hv
                have hn : ¬ ra i j := fun h => by rw [(iA i j hlt hlt2).2 h] at hv; cases hv
                have HN := Lib.hid (hT3.none_ hn)
                clear hv hne hn hT3
                go_wp2_with fail
                go_roundw
                case rel => exact ⟨j + 1, M3, by omega, by omega, by go_num, hM3, HN.out, hL3, hz3⟩
                case measure => (simp [intOf] <;> omega)
              · rw [hv] at a2
                have ha := (iA i k hlt hlt2).1 hv
                clear hne hv
                have p1 := hM3.row hlt
                have p2 := hM3.cell hlt hlt3
                have p3 := hM3.frozen hlt j
                have p4 := (hB.keep hL3).row hlt2
                have p5 := (hB.keep hL3).cell hlt2 hlt3
                have hgk := hM3.lt hlt
                have hS := (hM3.set hlt (j := j) (M3 i j || Mb k j)).drew
                have hSL := (bl_setb (j := j) hL3 hgk.1 (.bool (M3 i j || Mb k j))).drew
                have hSz : w1.heap.size ≤ (wr.setCell ⟨g i, j, none⟩ (.bool (M3 i j || Mb k j))).drew.heap.size := by simpa using hz3
                have hST := hT3.put hlt hik hkj hlt3 ha (iB k j hlt2 hlt3)
                generalize updM M3 i j (M3 i j || Mb k j) = M4 at hS hST
                have HS := Lib.hid hS
                have HST := Lib.hid hST
                have HA := Lib.hid ha
                clear hS hST hM3 hT3 ha
                cases hw : M3 i j
                · rw [hw] at p2 HS hSL hSz
                  rw [Bool.false_or] at HS hSL hSz
                  clear hw
                  generalize Mb k j = xb at *
                  go_wp2_with fail
                  go_big_region
                  go_wp2_with fail
                  go_roundw
                  case rel => exact ⟨j + 1, M4, by omega, by omega, fun h => (by cases h), by go_num, HS.out, HST.out, hSL, hSz⟩
                  case measure => (simp [intOf] <;> omega)
                · rw [hw] at p2 HS hSL hSz
                  rw [Bool.true_or] at HS hSL hSz
                  clear hw p5
                  go_wp2_with fail
                  go_big_region
                  go_wp2_with fail
                  go_roundw
                  case rel => exact ⟨j + 1, M4, by omega, by omega, fun h => (by cases h), by go_num, HS.out, HST.out, hSL, hSz⟩
                  case measure => (simp [intOf] <;> omega)
            · obtain rfl : j = m := by omega
              have HN := Lib.hid hT3.over
              clear hne hT3
              go_wp2_with fail
              go_roundw
              case rel => exact ⟨k + 1, M3, by omega, by omega, by go_num, hM3, HN.out, hL3, hz3⟩
              case measure => (simp [intOf] <;> omega)
        · obtain rfl : k = m := by omega
          have HN := Lib.hid hT2.row
          clear hT2
          go_wp2_with fail
          go_roundw
          case rel => exact ⟨i + 1, M2, by omega, by go_num, hM2, HN.out, hL2, hz2⟩
          case measure => (simp [intOf] <;> omega)
    · obtain rfl : i = m := by omega
      have HE := fun x y hx hy => Lib.hid (hT1.end_ fA fB (x := x) (y := y) hx hy)
      clear hT1
      go_wp2_with fail
      go_ret
      exact ⟨⟨_, g, M1, rfl, hM1.more (Nat.le_refl _) hz1, fun x y hx hy => (HE x y hx hy).out⟩, hL1⟩

set_option maxRecDepth 20000 in
set_option maxHeartbeats 4000000 in
theorem sMany (s : ByteArray) (m : Nat) (ba ca la ha : Nat) (ga : Nat → Nat) (Ma : Nat → Nat → Bool) (ra : Rel) (w : World) (hm : Hid (s.size + 1 = m)) (hs : s.size ≤ 1048576) (hA : MatK w la ha (.slice (some ⟨ba, 0, none⟩) m ca) m m ga Ma) (iA : IsM m Ma ra) (fA : Fwd m ra) :
    Calls Try.prog 122 #[.slice (some ⟨ba, 0, none⟩) m ca, .string s] w fun e w' => RetM m (starR ra) w e w' ∧ Below w.heap.size w w' := by
  have C := sSame4 s w hs
  rw [hm.out] at C
  have CC := Lib.hid C
  clear C
  have hm1 : m ≤ 1048577 := by have := hm.out; omega
  have hm0 : 0 < m := by have := hm.out; omega
  have hmm : (m : Int) ≤ 1048577 := by omega
  have hmm0 : (0 : Int) < (m : Int) := by omega
  have ew : IntKind.i64.wrap ((m : Int) - 1) = (m : Int) - 1 := IntWalk.i64_in _ (by omega)
  go_enter Try.func122, Try.ntmps122
  go_wp2_with fail
  refine CC.out.mono ?_; rintro e w1 ⟨⟨v, g, M0, rfl, hM0, hI0⟩, b1⟩
  obtain ⟨b, c, rfl, _, _, _⟩ := hM0.form hm0
  go_wp2_with fail
  clear ew
  go_loopw [6] (fun i wr => ∃ (q : Int) (M : Nat → Nat → Bool), -1 ≤ q ∧ q < m ∧ i = .int .i64 q ∧ MatK wr w.heap.size w1.heap.size (.slice (some ⟨b, 0, none⟩) m c) m m g M ∧ ManyI m ra M q 0 0 ∧ Below w.heap.size w wr ∧ w1.heap.size ≤ wr.heap.size) (fun i _ => (intOf i + 1).toNat)
  case atStart => exact ⟨(m : Int) - 1, M0, by omega, by omega, rfl, hM0, ManyI.zero hI0, b1, Nat.le_refl _⟩
  case round =>
    obtain ⟨q, M1, hq0, hq1, rfl, hM1, hT1, hL1, hz1⟩ := hrel
    by_cases hlt : 0 ≤ q
    · obtain ⟨i, rfl⟩ : ∃ i : Nat, q = (i : Int) := ⟨q.toNat, by omega⟩
      have hlt1 : i < m := by omega
      clear hq0 hlt
      go_wp2_with fail
      obtain ⟨wo, rfl⟩ : ∃ wo : World, wo = wr := ⟨_, rfl⟩
      go_loopw [7] (fun i' wr => ∃ (k : Nat) (M : Nat → Nat → Bool), i < k ∧ k ≤ m ∧ i' = .int .i64 k ∧ MatK wr w.heap.size w1.heap.size (.slice (some ⟨b, 0, none⟩) m c) m m g M ∧ ManyI m ra M i k 0 ∧ Below w.heap.size w wr ∧ w1.heap.size ≤ wr.heap.size) (fun i _ => m - (intOf i).toNat)
      case atStart => exact ⟨i + 1, M1, by omega, by omega, by go_num, hM1, hT1.first, hL1, hz1⟩
      case round =>
        obtain ⟨k, M2, hik, hk, rfl, hM2, hT2, hL2, hz2⟩ := hrel
        clear hM1 hT1 hL1 hz1
        by_cases hlt2 : k < m
        · have hlt2' : (k : Int) < (m : Int) := by omega
          have hik' : (i : Int) < (k : Int) := by omega
          go_wp2_with fail
          obtain ⟨wo2, rfl⟩ : ∃ wo2 : World, wo2 = wr := ⟨_, rfl⟩
          go_loopw [8] (fun i' wr => ∃ (j : Nat) (M : Nat → Nat → Bool), k ≤ j ∧ j ≤ m ∧ (Ma i k = false → j = k) ∧ i' = .int .i64 j ∧ MatK wr w.heap.size w1.heap.size (.slice (some ⟨b, 0, none⟩) m c) m m g M ∧ ManyI m ra M i k j ∧ Below w.heap.size w wr ∧ w1.heap.size ≤ wr.heap.size) (fun i _ => m - (intOf i).toNat)
          case atStart => exact ⟨k, M2, Nat.le_refl _, hk, fun _ => rfl, rfl, hM2, hT2.start, hL2, hz2⟩
          case round =>
            obtain ⟨j, M3, hkj, hj, hne, rfl, hM3, hT3, hL3, hz3⟩ := hrel
            clear hM2 hT2 hL2 hz2
            by_cases hlt3 : j < m
            · have hlt3' : (j : Int) < (m : Int) := by omega
              have a1 := (hA.keep hL3).row hlt1
              have a2 := (hA.keep hL3).cell hlt1 hlt2
              cases hv : Ma i k
              · rw [hv] at a2
                obtain rfl := hne hv
                have hn : ¬ ra i j := fun h => by rw [(iA i j hlt1 hlt2).2 h] at hv; cases hv
                have HN := Lib.hid (hT3.none_ hn)
                clear hv hne hn hT3
                go_wp2_with fail
                go_roundw
                case rel => exact ⟨j + 1, M3, by omega, by omega, by go_num, hM3, HN.out, hL3, hz3⟩
                case measure => (simp [intOf] <;> omega)
              · rw [hv] at a2
                have ha := (iA i k hlt1 hlt2).1 hv
                clear hne hv
                have p1 := hM3.row hlt1
                have p2 := hM3.cell hlt1 hlt3
                have p3 := hM3.frozen hlt1 j
                have p4 := hM3.row hlt2
                have p5 := hM3.cell hlt2 hlt3
                have hgk := hM3.lt hlt1
                have hS := (hM3.set hlt1 (j := j) (M3 i j || M3 k j)).drew
                have hSL := (bl_setb (j := j) hL3 hgk.1 (.bool (M3 i j || M3 k j))).drew
                have hSz : w1.heap.size ≤ (wr.setCell ⟨g i, j, none⟩ (.bool (M3 i j || M3 k j))).drew.heap.size := by simpa using hz3
                have hST := hT3.put fA hlt1 hik hkj hlt3 ha
                generalize updM M3 i j (M3 i j || M3 k j) = M4 at hS hST
                have HS := Lib.hid hS
                have HST := Lib.hid hST
                have HA := Lib.hid ha
                clear hS hST hM3 hT3 ha
                cases hw : M3 i j
                · rw [hw] at p2 HS hSL hSz
                  rw [Bool.false_or] at HS hSL hSz
                  clear hw
                  generalize M3 k j = xb at *
                  go_wp2_with fail
                  go_big_region
                  go_wp2_with fail
                  go_roundw
                  case rel => exact ⟨j + 1, M4, by omega, by omega, fun h => (by cases h), by go_num, HS.out, HST.out, hSL, hSz⟩
                  case measure => (simp [intOf] <;> omega)
                · rw [hw] at p2 HS hSL hSz
                  rw [Bool.true_or] at HS hSL hSz
                  clear hw p5
                  go_wp2_with fail
                  go_big_region
                  go_wp2_with fail
                  go_roundw
                  case rel => exact ⟨j + 1, M4, by omega, by omega, fun h => (by cases h), by go_num, HS.out, HST.out, hSL, hSz⟩
                  case measure => (simp [intOf] <;> omega)
            · obtain rfl : j = m := by omega
              have HN := Lib.hid hT3.over
              clear hne hT3
              go_wp2_with fail
              go_roundw
              case rel => exact ⟨k + 1, M3, by omega, by omega, by go_num, hM3, HN.out, hL3, hz3⟩
              case measure => (simp [intOf] <;> omega)
        · obtain rfl : k = m := by omega
          have HN := Lib.hid hT2.row
          clear hT2
          have hi63 : (i : Int) ≤ 1048577 := by omega
          go_wp2_with fail
          go_roundw
          case rel => exact ⟨(i : Int) - 1, M2, by omega, by omega, rfl, hM2, HN.out, hL2, hz2⟩
          case measure => (simp [intOf] <;> omega)
    · obtain rfl : q = -1 := by omega
      have HE := fun x y hx hy => Lib.hid (hT1.end_ fA (x := x) (y := y) hx hy)
      clear hT1
      go_wp2_with fail
      go_ret
      exact ⟨⟨_, g, M1, rfl, hM1.more (Nat.le_refl _) hz1, fun x y hx hy => (HE x y hx hy).out⟩, hL1⟩

end Go.Proofs.Ytnoekbgmhnhneaa
