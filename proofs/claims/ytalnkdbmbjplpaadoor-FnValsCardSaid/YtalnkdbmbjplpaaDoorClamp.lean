/- A number, or the nearest that is let: the program's clamp. No condition. -/
import Derived.Test.YtalnkdbmbjplpaaDoorBase
namespace Go.Proofs.YtalnkdbmbjplpaaDoor
open Go.RowKit

/-- A number, or the nearest that is let. -/
def clampI (n lo hi : Int) : Int := if n < lo then lo else if hi < n then hi else n
theorem clampI_bd (n lo hi : Int) (h : lo ≤ hi) : lo ≤ clampI n lo hi ∧ clampI n lo hi ≤ hi := by unfold clampI; split <;> (try split) <;> omega

set_option maxHeartbeats 400000 in
theorem iClamp (n lo hi : Int) (w : World) (h : lo ≤ hi) :
    Calls Tryd.prog 38 #[.int .i64 n, .int .i64 lo, .int .i64 hi] w fun e w' => e = .returned (.int .i64 (clampI n lo hi)) ∧ w' = w := by
  by_cases h1 : n < lo
  · go_enter Tryd.func38, Tryd.ntmps38
    go_wp2
    all_goals first | (exfalso; omega) | skip
    go_ret
    exact ⟨ret_int (by unfold clampI; rw [if_pos h1]), rfl⟩
  · by_cases h2 : hi < n
    · go_enter Tryd.func38, Tryd.ntmps38
      go_wp2
      all_goals first | (exfalso; omega) | skip
      go_ret
      exact ⟨ret_int (by unfold clampI; rw [if_neg (by omega), if_pos h2]), rfl⟩
    · go_enter Tryd.func38, Tryd.ntmps38
      go_wp2
      all_goals first | (exfalso; omega) | skip
      go_ret
      exact ⟨ret_int (by unfold clampI; rw [if_neg (by omega), if_neg (by omega)]), rfl⟩


end Go.Proofs.YtalnkdbmbjplpaaDoor
