/- Walks over the laws' helpers on rows of Ints: toIntS, eqIntS, markIntS. A row has at most 1048577 numbers. -/
import Derived.Test.YtnoekbgmhnhneaaIntM
import Derived.Test.YtnoekbgmhnhneaaZint
import Derived.Test.YtnoekbgmhnhneaaNodeS
namespace Go.Proofs.Ytnoekbgmhnhneaa
open Go.RowKit

theorem zints_at {w : World} {B : Nat} {A : Option Addr} {l : List Int} (h : Reads w B 1 A l.length (zints l)) {k : Nat} (hk : k < l.length) : ∃ b off, A = some ⟨b, off, none⟩ ∧ b < B ∧ w.cell? ⟨b, off + k, none⟩ = some (.int .i64 l[k]) := by
  obtain ⟨b, off, e, hb, hc⟩ := h.2 (by omega)
  exact ⟨b, off, e, hb, hc k _ (zints_get l hk)⟩
set_option maxHeartbeats 1000000 in
theorem eqZ_any (l : List Int) (A A' : Option Addr) (c c' : Nat) (w : World) (hn : l.length ≤ 1048577) (hR : Reads w w.heap.size 1 A l.length (zints l)) (hR' : Reads w w.heap.size 1 A' l.length (zints l)) :
    Calls Try.prog 14 #[.slice A l.length c, .slice A' l.length c'] w fun e w' => e = .returned (.bool true) ∧ Below w.heap.size w w' := by
  have hn' : (l.length : Int) ≤ 1048577 := by omega
  go_enter Try.func14, Try.ntmps14
  go_wp2_with fail
  go_loopw [5] (fun i wr => ∃ k : Nat, k ≤ l.length ∧ i = .int .i64 k ∧ Below w.heap.size w wr) (fun i _ => l.length - (intOf i).toNat)
  case atStart => exact ⟨0, Nat.zero_le _, rfl, Below.refl _ _⟩
  case round =>
    obtain ⟨k, hk, rfl, hL⟩ := hrel
    by_cases hlt : k < l.length
    · have hlt' : (k : Int) < (l.length : Int) := by omega
      obtain ⟨b, off, rfl, _, p1⟩ := zints_at (hR.below hL) hlt
      obtain ⟨b', off', rfl, _, p2⟩ := zints_at (hR'.below hL) hlt
      generalize l[k] = y at p1 p2
      go_wp2_with fail
      go_quiet (fail)
      go_wp2_with fail
      go_roundw
      case rel => exact ⟨k + 1, by omega, by go_num, bl_drewN hL _⟩
      case measure => (simp [intOf] <;> omega)
    · obtain rfl : k = l.length := by omega
      go_wp2_with fail
      go_ret
      exact ⟨rfl, hL⟩
set_option maxHeartbeats 1000000 in
theorem markZ_any (l : List Int) (A : Option Addr) (c k lo hi : Nat) (w : World) (hn : l.length ≤ 1048577) (hk : k ≤ 1073741824) (hR : Row w lo hi 3 1 (.slice A l.length c) l.length (zints l)) :
    Calls Try.prog 17 #[.slice A l.length c, .int .i64 k] w fun e w' => (e = .returned (.int .i64 ((k + l.length : Nat) : Int)) ∧ Row w' lo hi 3 1 (.slice A l.length c) l.length (ints (upK k l.length))) ∧ w.grownBy w' (Value.slice A l.length c).ownBlock := by
  have hn' : (l.length : Int) ≤ 1048577 := by omega
  have hk' : (k : Int) ≤ 1073741824 := by omega
  have hb0 := fun g h => hR.2 g h
  go_enter Try.func17, Try.ntmps17
  go_wp2_with fail
  go_loopw [1, 5] (fun kv i wr => ∃ q : Nat, q ≤ l.length ∧ i = .int .i64 q ∧ kv = .int .i64 ((k + q : Nat) : Int) ∧ wr.ownsRow lo 3 1 (.slice A l.length c) l.length ((ints (upK k l.length)).take q ++ (zints l).drop q) ∧ w.grownBy wr (Value.slice A l.length c).ownBlock) (fun _ i _ => l.length - (intOf i).toNat)
  case atStart => exact ⟨0, Nat.zero_le _, rfl, rfl, hR.1, gr_refl _ _⟩
  case round =>
    obtain ⟨q, hq, rfl, rfl, hO, hL⟩ := hrel
    by_cases hlt : q < l.length
    · have hlt' : (q : Int) < (l.length : Int) := by omega
      obtain ⟨g, rfl, hg1, hg2⟩ := own_blk hO (by omega)
      have p1 := hO.cellAt q (by omega)
      have hlen : q < ((ints (upK k l.length)).take q ++ (zints l).drop q).length := by rw [hO.1]; omega
      rw [List.getElem?_eq_getElem hlen] at p1
      have p2 := hO.frozenAt q
      have hS := (hO.stored q (.int .i64 ((k + q : Nat) : Int))).1
      rw [upto_mark k l.length q (zints l) (zints_len l) hlt] at hS
      have HS := Lib.hid hS
      have hSL := gr_set (g := g) (p := ⟨g, q, none⟩) hL (.inl rfl) (.int .i64 ((k + q : Nat) : Int))
      generalize ((ints (upK k l.length)).take q ++ (zints l).drop q)[q] = y at p1
      clear hS hO
      have e9 : ((k + q : Nat) : Int) = (k : Int) + (q : Int) := by omega
      rw [e9] at HS hSL ⊢
      clear e9
      have e8 : (k : Int) + (q : Int) ≤ 1074790401 := by omega
      go_wp2_with fail
      go_roundw
      case rel => exact ⟨q + 1, by omega, by go_num, by congr 1 <;> omega, HS.out, hSL⟩
      case measure => (simp [intOf] <;> omega)
    · obtain rfl : q = l.length := by omega
      rw [List.drop_eq_nil_of_le (by rw [zints_len]; exact Nat.le_refl _), List.append_nil, List.take_of_length_le (by rw [ints_len, upK_len]; exact Nat.le_refl _)] at hO
      have HO := Lib.hid hO
      clear hO
      go_wp2_with fail
      go_ret
      exact ⟨⟨rfl, HO.out, hb0⟩, hL⟩
theorem upto_put (l : List Int) (k : Nat) (hk : k < l.length) : (zints l).take (k + 1) ++ (zints (List.replicate l.length 0)).drop (k + 1) = ((zints l).take k ++ (zints (List.replicate l.length 0)).drop k).set k (.int .i64 l[k]) := by
  have h1 : ((zints l).take k).length = k := by rw [List.length_take, zints_len]; omega
  have h2 : ((zints l).take (k + 1)).length = k + 1 := by rw [List.length_take, zints_len]; omega
  have h3 : (zints (List.replicate l.length 0)).length = l.length := by rw [zints_len, List.length_replicate]
  apply List.ext_getElem?
  intro j
  rw [List.getElem?_set]
  by_cases hj : k = j
  · subst hj
    rw [if_pos rfl, if_pos (by rw [List.length_append, h1, List.length_drop, h3]; omega), List.getElem?_append_left (by rw [h2]; omega), List.getElem?_take, if_pos (by omega), zints_get l hk]
  · rw [if_neg hj]
    rcases Nat.lt_or_ge j k with h | h
    · rw [List.getElem?_append_left (by rw [h2]; omega), List.getElem?_append_left (by rw [h1]; exact h), List.getElem?_take, List.getElem?_take, if_pos (by omega), if_pos h]
    · rw [List.getElem?_append_right (by rw [h2]; omega), List.getElem?_append_right (by rw [h1]; omega), h2, h1, List.getElem?_drop, List.getElem?_drop]
      congr 1
      omega
set_option maxHeartbeats 1000000 in
theorem toZ_any (l : List Int) (A : Option Addr) (c : Nat) (w : World) (hn : l.length ≤ 1048577) (hR : Reads w w.heap.size 1 A l.length (zints l)) :
    Calls Try.prog 12 #[.slice A l.length c] w fun e w' => RetZ (fun m => l = m) w e w' ∧ Below w.heap.size w w' := by
  have hn' : (l.length : Int) ≤ 1048577 := by omega
  obtain ⟨i0, hi, hz0, hz1, hz2⟩ := info_parts info_intz
  have hrep2 : Hid (List.replicate l.length (Value.int .i64 0) = zints (List.replicate l.length 0)) := by
    unfold Hid zints
    rw [List.map_replicate]
  go_enter Try.func12, Try.ntmps12
  go_wp2_with (at_make; refine wpList_makeN rfl _ _ 25 rfl 3 i0 (.int .i64 0) 1 8 Try.underlying25 hi hz0 hz1 hz2 rfl _ _ l.length rfl rfl (by omega) (by omega) ?_)
  intro w1 hO hL
  rw [hrep2.out] at hO
  go_wp2_with fail
  go_loopw [4] (fun i wr => ∃ k : Nat, k ≤ l.length ∧ i = .int .i64 k ∧ wr.ownsRow w.heap.size 3 1 (.slice (some ⟨w.heap.size, 0, none⟩) l.length l.length) l.length ((zints l).take k ++ (zints (List.replicate l.length 0)).drop k) ∧ Below w.heap.size w wr) (fun i _ => l.length - (intOf i).toNat)
  case atStart => exact ⟨0, Nat.zero_le _, rfl, by rw [List.take_zero, List.nil_append, List.drop_zero]; exact hO, hL⟩
  case round =>
    obtain ⟨k, hk, rfl, hOr, hLr⟩ := hrel
    by_cases hlt : k < l.length
    · obtain ⟨b, off, rfl, hb, q0⟩ := zints_at (hR.below hLr) hlt
      have hlt' : (k : Int) < (l.length : Int) := by omega
      have hS := (hOr.stored k (.int .i64 l[k])).1
      rw [← upto_put l k hlt] at hS
      have HS := Lib.hid hS
      have p1 := hOr.cellAt k (by omega)
      have hlen : k < ((zints l).take k ++ (zints (List.replicate l.length 0)).drop k).length := by rw [hOr.1]; omega
      rw [List.getElem?_eq_getElem hlen] at p1
      have p2 := hOr.frozenAt k
      generalize ((zints l).take k ++ (zints (List.replicate l.length 0)).drop k)[k] = y at p1
      clear hS
      generalize l[k] = z at *
      go_wp2_with fail
      go_roundw
      case rel => exact ⟨k + 1, by omega, by go_num, HS.out, bl_set hLr (Nat.le_refl _) _⟩
      case measure => simp [intOf]; omega
    · obtain rfl : k = l.length := by omega
      rw [List.drop_eq_nil_of_le (by rw [zints_len, List.length_replicate]; exact Nat.le_refl _), List.append_nil, List.take_of_length_le (by rw [zints_len]; exact Nat.le_refl _)] at hOr
      have H := Lib.hid hOr
      clear hOr
      go_wp2_with fail
      go_ret
      exact ⟨⟨_, l, rfl, rfl, Row.mk H.out⟩, hLr⟩

end Go.Proofs.Ytnoekbgmhnhneaa
