/- Walks over digits, and 'is it within': isDigit, within of the program, l2Digit of the reference. No condition. -/
import Derived.Test.YtnoekbgmhnhneaaIn
namespace Go.Proofs.Ytnoekbgmhnhneaa
open Go.RowKit
set_option maxHeartbeats 400000 in
theorem iDigit (c : Int) (w : World) :
    Calls Try.prog 124 #[.int .u8 c] w fun e w' => e = .returned (.bool (inI c 48 57)) ∧ w' = w := by
  by_cases c1 : 48 ≤ c
  · by_cases c2 : c ≤ 57
    · go_enter Try.func124, Try.ntmps124
      go_wp2_with fail
      go_ret
      exact ⟨ret_bool (by rw [inI_true c1 c2]), rfl⟩
    · go_enter Try.func124, Try.ntmps124
      go_wp2_with fail
      go_ret
      exact ⟨ret_bool (by rw [inI_false (by omega)]), rfl⟩
  · go_enter Try.func124, Try.ntmps124
    go_wp2_with fail
    go_ret
    exact ⟨ret_bool (by rw [inI_false (by omega)]), rfl⟩

set_option maxHeartbeats 400000 in
theorem sDigit (c : Int) (w : World) (h0 : 0 ≤ c) (h1 : c < 256) :
    Calls Try.prog 123 #[.int .u8 c] w fun e w' => e = .returned (.bool (inI c 48 57)) ∧ w' = w := by
  go_enter Try.func123, Try.ntmps123
  go_wp2_with fail
  refine (sIn _ _ _ _).mono ?_; rintro e w1 ⟨rfl, rfl⟩
  go_wp2_with fail
  go_ret
  exact ⟨rfl, rfl⟩

set_option maxHeartbeats 400000 in
theorem iWithin (x lo hi : Int) (w : World) :
    Calls Try.prog 59 #[.int .i64 x, .int .i64 lo, .int .i64 hi] w fun e w' => e = .returned (.bool (inI x lo hi)) ∧ w' = w := by
  by_cases c1 : lo ≤ x
  · by_cases c2 : x ≤ hi
    · go_enter Try.func59, Try.ntmps59
      go_wp2_with fail
      go_ret
      exact ⟨ret_bool (by rw [inI_true c1 c2]), rfl⟩
    · go_enter Try.func59, Try.ntmps59
      go_wp2_with fail
      go_ret
      exact ⟨ret_bool (by rw [inI_false (by omega)]), rfl⟩
  · go_enter Try.func59, Try.ntmps59
    go_wp2_with fail
    go_ret
    exact ⟨ret_bool (by rw [inI_false (by omega)]), rfl⟩


end Go.Proofs.Ytnoekbgmhnhneaa
