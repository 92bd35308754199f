/- Walks over the laws' helpers on rows of numbers: eqIntS, markIntS, heldIntS. A row has at most 1048577 numbers. -/
import Derived.Test.YtnoekbgmhnhneaaEndsM
import Derived.Test.YtnoekbgmhnhneaaTree
namespace Go.Proofs.Ytnoekbgmhnhneaa
open Go.RowKit

theorem ints_at {w : World} {B : Nat} {A : Option Addr} {l : List Nat} (h : Reads w B 1 A l.length (ints l)) {k : Nat} (hk : k < l.length) : ∃ b off, A = some ⟨b, off, none⟩ ∧ b < B ∧ w.cell? ⟨b, off + k, none⟩ = some (.int .i64 (l[k] : Int)) := by
  obtain ⟨b, off, e, hb, hc⟩ := h.2 (by omega)
  exact ⟨b, off, e, hb, hc k _ (ints_get l hk)⟩
set_option maxHeartbeats 1000000 in
theorem eqIntS_any (l : List Nat) (A A' : Option Addr) (c c' : Nat) (w : World) (hn : l.length ≤ 1048577) (hR : Reads w w.heap.size 1 A l.length (ints l)) (hR' : Reads w w.heap.size 1 A' l.length (ints l)) :
    Calls Try.prog 14 #[.slice A l.length c, .slice A' l.length c'] w fun e w' => e = .returned (.bool true) ∧ Below w.heap.size w w' := by
  have hn' : (l.length : Int) ≤ 1048577 := by omega
  go_enter Try.func14, Try.ntmps14
  go_wp2_with fail
  go_loopw [5] (fun i wr => ∃ k : Nat, k ≤ l.length ∧ i = .int .i64 k ∧ Below w.heap.size w wr) (fun i _ => l.length - (intOf i).toNat)
  case atStart => exact ⟨0, Nat.zero_le _, rfl, Below.refl _ _⟩
  case round =>
    obtain ⟨k, hk, rfl, hL⟩ := hrel
    by_cases hlt : k < l.length
    · have hlt' : (k : Int) < (l.length : Int) := by omega
      obtain ⟨b, off, rfl, _, p1⟩ := ints_at (hR.below hL) hlt
      obtain ⟨b', off', rfl, _, p2⟩ := ints_at (hR'.below hL) hlt
      generalize (l[k] : Int) = y at p1 p2
      go_wp2_with fail
      go_quiet (fail)
      go_wp2_with fail
      go_roundw
      case rel => exact ⟨k + 1, by omega, by go_num, bl_drewN hL _⟩
      case measure => (simp [intOf] <;> omega)
    · obtain rfl : k = l.length := by omega
      go_wp2_with fail
      go_ret
      exact ⟨rfl, hL⟩
/-- Numbers from k on. -/
def upK (k n : Nat) : List Nat := List.range' k n
theorem upK_len (k n : Nat) : (upK k n).length = n := by simp [upK]
theorem ints_len (l : List Nat) : (ints l).length = l.length := by simp [ints]
theorem upK_get (k n i : Nat) (h : i < n) : (ints (upK k n))[i]? = some (.int .i64 ((k + i : Nat) : Int)) := by
  unfold ints upK
  rw [List.getElem?_map, List.getElem?_range' (by omega)]
  simp
theorem upto_mark (k n i : Nat) (l : List Value) (hl : l.length = n) (hi : i < n) : ((ints (upK k n)).take i ++ l.drop i).set i (.int .i64 ((k + i : Nat) : Int)) = (ints (upK k n)).take (i + 1) ++ l.drop (i + 1) := by
  have h1 : ((ints (upK k n)).take i).length = i := by rw [List.length_take, ints_len, upK_len]; omega
  have h2 : ((ints (upK k n)).take (i + 1)).length = i + 1 := by rw [List.length_take, ints_len, upK_len]; omega
  apply List.ext_getElem?
  intro j
  rw [List.getElem?_set]
  by_cases hj : i = j
  · subst hj
    rw [if_pos rfl, if_pos (by rw [List.length_append, h1, List.length_drop]; omega), List.getElem?_append_left (by rw [h2]; omega), List.getElem?_take, if_pos (by omega), upK_get k n i hi]
  · rw [if_neg hj]
    rcases Nat.lt_or_ge j i with h | h
    · rw [List.getElem?_append_left (by rw [h1]; exact h), List.getElem?_append_left (by rw [h2]; omega), List.getElem?_take, List.getElem?_take, if_pos h, if_pos (by omega)]
    · rw [List.getElem?_append_right (by rw [h1]; omega), List.getElem?_append_right (by rw [h2]; omega), h1, h2, List.getElem?_drop, List.getElem?_drop]
      congr 1
      omega
set_option maxHeartbeats 1000000 in
theorem markIntS_any (l : List Nat) (A : Option Addr) (c k lo hi : Nat) (w : World) (hn : l.length ≤ 1048577) (hk : k ≤ 1073741824) (hR : Row w lo hi 3 1 (.slice A l.length c) l.length (ints l)) :
    Calls Try.prog 17 #[.slice A l.length c, .int .i64 k] w fun e w' => (e = .returned (.int .i64 ((k + l.length : Nat) : Int)) ∧ Row w' lo hi 3 1 (.slice A l.length c) l.length (ints (upK k l.length))) ∧ Below lo w w' := by
  have hn' : (l.length : Int) ≤ 1048577 := by omega
  have hk' : (k : Int) ≤ 1073741824 := by omega
  have hb0 := fun g h => hR.2 g h
  go_enter Try.func17, Try.ntmps17
  go_wp2_with fail
  go_loopw [1, 5] (fun kv i wr => ∃ q : Nat, q ≤ l.length ∧ i = .int .i64 q ∧ kv = .int .i64 ((k + q : Nat) : Int) ∧ wr.ownsRow lo 3 1 (.slice A l.length c) l.length ((ints (upK k l.length)).take q ++ (ints l).drop q) ∧ Below lo w wr) (fun _ i _ => l.length - (intOf i).toNat)
  case atStart => exact ⟨0, Nat.zero_le _, rfl, rfl, hR.1, Below.refl _ _⟩
  case round =>
    obtain ⟨q, hq, rfl, rfl, hO, hL⟩ := hrel
    by_cases hlt : q < l.length
    · have hlt' : (q : Int) < (l.length : Int) := by omega
      obtain ⟨g, rfl, hg1, hg2⟩ := own_blk hO (by omega)
      have p1 := hO.cellAt q (by omega)
      have hlen : q < ((ints (upK k l.length)).take q ++ (ints l).drop q).length := by rw [hO.1]; omega
      rw [List.getElem?_eq_getElem hlen] at p1
      have p2 := hO.frozenAt q
      have hS := (hO.stored q (.int .i64 ((k + q : Nat) : Int))).1
      rw [upto_mark k l.length q (ints l) (ints_len l) hlt] at hS
      have HS := Lib.hid hS
      have hSL := bl_setb (b := g) (j := q) hL hg1 (.int .i64 ((k + q : Nat) : Int))
      generalize ((ints (upK k l.length)).take q ++ (ints l).drop q)[q] = y at p1
      clear hS hO
      have e9 : ((k + q : Nat) : Int) = (k : Int) + (q : Int) := by omega
      rw [e9] at HS hSL ⊢
      clear e9
      have e8 : (k : Int) + (q : Int) ≤ 1074790401 := by omega
      go_wp2_with fail
      go_roundw
      case rel => exact ⟨q + 1, by omega, by go_num, by congr 1 <;> omega, HS.out, hSL⟩
      case measure => (simp [intOf] <;> omega)
    · obtain rfl : q = l.length := by omega
      rw [List.drop_eq_nil_of_le (by rw [ints_len]; exact Nat.le_refl _), List.append_nil, List.take_of_length_le (by rw [ints_len, upK_len]; exact Nat.le_refl _)] at hO
      have HO := Lib.hid hO
      clear hO
      go_wp2_with fail
      go_ret
      exact ⟨⟨rfl, HO.out, hb0⟩, hL⟩
set_option maxHeartbeats 1000000 in
theorem heldIntS_any (n k c : Nat) (A : Option Addr) (w : World) (hn : n ≤ 1048577) (hk : k ≤ 1073741824) (hR : Reads w w.heap.size 1 A n (ints (upK k n))) :
    Calls Try.prog 18 #[.slice A n c, .int .i64 k] w fun e w' => e = .returned (.int .i64 ((k + n : Nat) : Int)) ∧ Below w.heap.size w w' := by
  have hn' : (n : Int) ≤ 1048577 := by omega
  have hk' : (k : Int) ≤ 1073741824 := by omega
  go_enter Try.func18, Try.ntmps18
  go_wp2_with fail
  go_loopw [1, 5] (fun kv i wr => ∃ q : Nat, q ≤ n ∧ i = .int .i64 q ∧ kv = .int .i64 ((k + q : Nat) : Int) ∧ Below w.heap.size w wr) (fun _ i _ => n - (intOf i).toNat)
  case atStart => exact ⟨0, Nat.zero_le _, rfl, rfl, Below.refl _ _⟩
  case round =>
    obtain ⟨q, hq, rfl, rfl, hL⟩ := hrel
    by_cases hlt : q < n
    · have hlt' : (q : Int) < (n : Int) := by omega
      obtain ⟨b, off, rfl, _, hc⟩ := (hR.below hL).2 (by omega)
      have p1 := hc q _ (upK_get k n q hlt)
      clear hc
      have e9 : ((k + q : Nat) : Int) = (k : Int) + (q : Int) := by omega
      rw [e9] at p1 ⊢
      clear e9
      have e8 : (k : Int) + (q : Int) ≤ 1074790401 := by omega
      go_wp2_with fail
      go_roundw
      case rel => exact ⟨q + 1, by omega, by go_num, by congr 1 <;> omega, hL⟩
      case measure => (simp [intOf] <;> omega)
    · obtain rfl : q = n := by omega
      go_wp2_with fail
      go_ret
      exact ⟨rfl, hL⟩

end Go.Proofs.Ytnoekbgmhnhneaa
