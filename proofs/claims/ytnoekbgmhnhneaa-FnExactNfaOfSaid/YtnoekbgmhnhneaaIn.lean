/- Is a number within: l1In of the reference. No condition. -/
import Derived.Test.YtnoekbgmhnhneaaBase
namespace Go.Proofs.Ytnoekbgmhnhneaa
open Go.RowKit

/-- 'is it within'. -/
def inI (x lo hi : Int) : Bool := decide (lo ≤ x) && decide (x ≤ hi)
theorem inI_true {x lo hi : Int} (h1 : lo ≤ x) (h2 : x ≤ hi) : inI x lo hi = true := by simp [inI, h1, h2]
theorem inI_false {x lo hi : Int} (h : x < lo ∨ hi < x) : inI x lo hi = false := by unfold inI; simp only [Bool.and_eq_false_iff, decide_eq_false_iff_not]; omega
theorem inI_iff {x lo hi : Int} : inI x lo hi = true ↔ lo ≤ x ∧ x ≤ hi := by simp [inI]

set_option maxHeartbeats 400000 in
theorem sIn (x lo hi : Int) (w : World) :
    Calls Try.prog 42 #[.int .i64 x, .int .i64 lo, .int .i64 hi] w fun e w' => e = .returned (.bool (inI x lo hi)) ∧ w' = w := by
  by_cases h1 : lo ≤ x
  · by_cases h2 : x ≤ hi
    · go_enter Try.func42, Try.ntmps42
      go_wp2_with fail
      go_ret
      exact ⟨ret_bool (by rw [inI_true h1 h2]), rfl⟩
    · go_enter Try.func42, Try.ntmps42
      go_wp2_with fail
      go_ret
      exact ⟨ret_bool (by rw [inI_false (by omega)]), rfl⟩
  · go_enter Try.func42, Try.ntmps42
    go_wp2_with fail
    all_goals go_ret
    all_goals exact ⟨ret_bool (by rw [inI_false (by omega)]), rfl⟩

end Go.Proofs.Ytnoekbgmhnhneaa
