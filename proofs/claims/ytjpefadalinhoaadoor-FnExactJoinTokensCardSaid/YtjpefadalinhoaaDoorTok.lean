/- Walks over plainOk of the program and l7Print of the reference; toToken, szToken. A text's length is at most 1048576. -/
import Derived.Test.YtjpefadalinhoaaDoorName
namespace Go.Proofs.YtjpefadalinhoaaDoor
open Go.RowKit

/-- A byte that is printed, and not b. -/
def prB (c b : Int) : Bool := inI c 32 126 && !(c == b)
def prAll (s : ByteArray) (b : Int) (k : Nat) : Prop := ∀ i, i < k → ∀ h : i < s.size, prB s[i].toNat b = true
theorem prAll.zero (s : ByteArray) (b : Int) : prAll s b 0 := fun i h => by omega
theorem prAll.succ {s : ByteArray} {b : Int} {k : Nat} (h : prAll s b k) (hk : k < s.size) (hw : prB s[k].toNat b = true) : prAll s b (k + 1) := fun i hi hs => by
  rcases Nat.lt_or_ge i k with h1 | h1
  · exact h i h1 hs
  · obtain rfl : i = k := by omega
    exact hw
open Classical in
/-- Are all bytes printed, and none is b. -/
noncomputable def plainB (s : ByteArray) (b : Int) : Bool := decide (prAll s b s.size)
open Classical in
theorem plainB_true {s : ByteArray} {b : Int} (h : prAll s b s.size) : plainB s b = true := by unfold plainB; exact decide_eq_true h
open Classical in
theorem plainB_at {s : ByteArray} {b : Int} {k : Nat} (h : k < s.size) (h2 : prB s[k].toNat b = false) : plainB s b = false := by
  unfold plainB; refine decide_eq_false ?_; intro h1; have := h1 k h h; rw [this] at h2; cases h2

set_option maxHeartbeats 1000000 in
theorem iPlain (s : ByteArray) (b : Int) (w : World) (hs : s.size ≤ 1048576) :
    Calls Tryd.prog 37 #[.string s, .int .u8 b] w fun e w' => e = .returned (.bool (plainB s b)) ∧ w' = w := by
  have E1 := fun h => Lib.hid (plainB_true (s := s) (b := b) h)
  have E2 := fun (k : Nat) h (h2 : prB s[k].toNat b = false) => Lib.hid (plainB_at h h2)
  generalize plainB s b = R at E1 E2 ⊢
  go_enter Tryd.func37, Tryd.ntmps37
  go_wp2_with fail
  go_loop [5] (fun i => ∃ k : Nat, k ≤ s.size ∧ i = .int .i64 k ∧ prAll s b k) (fun i => s.size - (intOf i).toNat)
  case atStart => exact ⟨0, Nat.zero_le _, rfl, prAll.zero s b⟩
  case round =>
    obtain ⟨k, hk, rfl, hA⟩ := hrel
    by_cases hlt : (k : Int) < s.size
    · have hkn : k < s.size := by omega
      have hx := s[k].toNat_lt
      have hx' : (s[k].toNat : Int) < 256 := by omega
      have HA := Lib.hid hA
      clear hA E1
      cases h1 : inI s[k].toNat 32 126
      · have E := E2 k hkn (by unfold prB; rw [h1]; rfl)
        clear E2 HA
        go_wp2_with fail
        refine (iWithin _ _ _ _).mono ?_; rintro e w1 ⟨rfl, rfl⟩
        rw [h1]
        go_wp2_with fail
        go_ret
        exact ⟨ret_bool (by rw [E.out]), rfl⟩
      · cases h2 : ((s[k].toNat : Int) == b)
        · clear E2
          go_wp2_with fail
          refine (iWithin _ _ _ _).mono ?_; rintro e w1 ⟨rfl, rfl⟩
          rw [h1]
          go_wp2_with fail
          go_round
          case rel => exact ⟨k + 1, by omega, by go_num, HA.out.succ hkn (by unfold prB; rw [h1, h2]; rfl)⟩
          case measure => simp [intOf]; omega
        · have E := E2 k hkn (by unfold prB; rw [h1, h2]; rfl)
          clear E2 HA
          go_wp2_with fail
          refine (iWithin _ _ _ _).mono ?_; rintro e w1 ⟨rfl, rfl⟩
          rw [h1]
          go_wp2_with fail
          go_ret
          exact ⟨ret_bool (by rw [E.out]), rfl⟩
    · obtain rfl : k = s.size := by omega
      have E := E1 hA
      clear E1 E2 hA
      go_wp2_with fail
      go_ret
      exact ⟨ret_bool (by rw [E.out]), rfl⟩

set_option maxHeartbeats 1000000 in
theorem sPrint (s : ByteArray) (b : Int) (w : World) (hs : s.size ≤ 1048576) :
    Calls Tryd.prog 22 #[.string s, .int .u8 b] w fun e w' => e = .returned (.bool (plainB s b && decide (s.size ≤ 200))) ∧ w' = w := by
  have E1 := fun h => Lib.hid (plainB_true (s := s) (b := b) h)
  have E2 := fun (k : Nat) h (h2 : prB s[k].toNat b = false) => Lib.hid (plainB_at h h2)
  generalize plainB s b = R at E1 E2 ⊢
  go_enter Tryd.func22, Tryd.ntmps22
  go_wp2_with fail
  go_loop [5] (fun i => ∃ k : Nat, k ≤ s.size ∧ i = .int .i64 k ∧ prAll s b k) (fun i => s.size - (intOf i).toNat)
  case atStart => exact ⟨0, Nat.zero_le _, rfl, prAll.zero s b⟩
  case round =>
    obtain ⟨k, hk, rfl, hA⟩ := hrel
    by_cases hlt : (k : Int) < s.size
    · have hkn : k < s.size := by omega
      have hx := s[k].toNat_lt
      have hx' : (s[k].toNat : Int) < 256 := by omega
      have HA := Lib.hid hA
      clear hA E1
      cases h1 : inI s[k].toNat 32 126
      · have E := E2 k hkn (by unfold prB; rw [h1]; rfl)
        clear E2 HA
        go_wp2_with fail
        refine (sIn _ _ _ _).mono ?_; rintro e w1 ⟨rfl, rfl⟩
        rw [h1]
        go_wp2_with fail
        go_ret
        exact ⟨ret_bool (by rw [E.out]; rfl), rfl⟩
      · cases h2 : ((s[k].toNat : Int) == b)
        · clear E2
          go_wp2_with fail
          refine (sIn _ _ _ _).mono ?_; rintro e w1 ⟨rfl, rfl⟩
          rw [h1]
          go_wp2_with fail
          go_round
          case rel => exact ⟨k + 1, by omega, by go_num, HA.out.succ hkn (by unfold prB; rw [h1, h2]; rfl)⟩
          case measure => simp [intOf]; omega
        · have E := E2 k hkn (by unfold prB; rw [h1, h2]; rfl)
          clear E2 HA
          go_wp2_with fail
          refine (sIn _ _ _ _).mono ?_; rintro e w1 ⟨rfl, rfl⟩
          rw [h1]
          go_wp2_with fail
          go_ret
          exact ⟨ret_bool (by rw [E.out]; rfl), rfl⟩
    · obtain rfl : k = s.size := by omega
      have E := E1 hA
      clear E1 E2 hA
      go_wp2_with fail
      go_ret
      exact ⟨ret_bool (by rw [E.out]; simp; omega), rfl⟩

/-- What szVal gives. -/
def szStr (left : Int) (s : ByteArray) : Int := if left - s.size < 0 then -1 else left - s.size

theorem isEmpty_dec (l : List UInt8) : l.isEmpty = decide (l = []) := by cases l <;> simp

set_option maxHeartbeats 400000 in
theorem toToken_any (k n : Int) (s : ByteArray) (w : World) :
    Calls Tryd.prog 7 #[.agg #[.int .i64 k, .int .i64 n, .string s]] w fun e w' => e = .returned (.agg #[.int .i64 k, .int .i64 n, .string s]) ∧ Below w.heap.size w w' := by
  go_enter Tryd.func7, Tryd.ntmps7
  go_wp2
  exact bodyPost_ret (v := .agg #[.int .i64 k, .int .i64 n, .string s]) (by simp [results, Tryd.results7, go_sem]) rfl ⟨rfl, by repeat (first | exact Below.refl _ _ | refine bl_drewN ?_ _ | refine Below.drew ?_ | refine bl_alloc ?_ _ | refine bl_set ?_ (by simp) _ | refine bl_trans ?_ (by assumption))⟩

set_option maxHeartbeats 400000 in
theorem szToken_any (k n left : Int) (s : ByteArray) (w : World) (h : s.size ≤ 9223372036854775807) (hl : 0 ≤ left) (h2 : left ≤ 1048576) :
    Calls Tryd.prog 5 #[.agg #[.int .i64 k, .int .i64 n, .string s], .int .i64 left] w fun e w' => e = .returned (.int .i64 (szStr left s)) ∧ Below w.heap.size w w' := by
  by_cases hc : left - (s.size : Int) < 0
  all_goals
    go_enter Tryd.func5, Tryd.ntmps5
    go_wp2
    go_ret
    exact ⟨ret_int (by simp only [szStr]; first | rw [if_pos hc] | (rw [if_neg (by omega)])), by repeat (first | exact Below.refl _ _ | refine bl_drewN ?_ _ | refine Below.drew ?_ | refine bl_alloc ?_ _ | refine bl_set ?_ (by simp) _ | refine bl_trans ?_ (by assumption))⟩


set_option maxHeartbeats 400000 in
theorem iTextOk (s : ByteArray) (w : World) (hs : s.size ≤ 1048576) :
    Calls Tryd.prog 26 #[.string s] w fun e w' => e = .returned (.bool (plainB s 39 && decide (s.size ≤ 200))) ∧ w' = w := by
  by_cases h : (s.size : Int) ≤ 200
  · have hd : decide (s.size ≤ 200) = true := by simp; omega
    rw [hd]
    go_enter Tryd.func26, Tryd.ntmps26
    go_wp2_with fail
    refine (iPlain s 39 _ hs).mono ?_; rintro e w1 ⟨rfl, rfl⟩
    generalize hR : plainB s 39 = R
    go_wp2_with fail
    go_ret
    exact ⟨ret_bool (by rw [hR]; simp), rfl⟩
  · have hd : decide (s.size ≤ 200) = false := by simp; omega
    rw [hd]
    go_enter Tryd.func26, Tryd.ntmps26
    go_wp2_with fail
    go_ret
    exact ⟨ret_bool (by simp), rfl⟩
set_option maxHeartbeats 400000 in
theorem iRexText (s : ByteArray) (w : World) (hs : s.size ≤ 1048576) :
    Calls Tryd.prog 27 #[.string s] w fun e w' => e = .returned (.bool (plainB s 47 && decide (s.size ≤ 200) && decide (0 < s.size))) ∧ w' = w := by
  by_cases h : 1 ≤ (s.size : Int) ∧ (s.size : Int) ≤ 200
  · have hI := inI_true h.1 h.2
    have hd : decide (s.size ≤ 200) = true := by simp; omega
    have hd' : decide (0 < s.size) = true := by simp; omega
    rw [hd, hd']
    go_enter Tryd.func27, Tryd.ntmps27
    go_wp2_with fail
    refine (iWithin _ _ _ _).mono ?_; rintro e w1 ⟨rfl, rfl⟩
    rw [hI]
    go_wp2_with fail
    refine (iPlain s 47 _ hs).mono ?_; rintro e w1 ⟨rfl, rfl⟩
    generalize hR : plainB s 47 = R
    go_wp2_with fail
    go_ret
    exact ⟨ret_bool (by rw [hR]; simp), rfl⟩
  · have hI : inI (s.size : Int) 1 200 = false := inI_false (by omega)
    have hd : (decide (s.size ≤ 200) && decide (0 < s.size)) = false := by rw [Bool.and_eq_false_iff, decide_eq_false_iff_not, decide_eq_false_iff_not]; omega
    rw [Bool.and_assoc, hd]
    go_enter Tryd.func27, Tryd.ntmps27
    go_wp2_with fail
    refine (iWithin _ _ _ _).mono ?_; rintro e w1 ⟨rfl, rfl⟩
    rw [hI]
    go_wp2_with fail
    go_ret
    exact ⟨ret_bool (by simp), rfl⟩

end Go.Proofs.YtjpefadalinhoaaDoor
