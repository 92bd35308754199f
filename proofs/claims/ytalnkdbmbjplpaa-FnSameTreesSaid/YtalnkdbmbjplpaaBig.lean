/- Is a draw too big: big of the laws. No condition. -/
import Derived.Test.YtalnkdbmbjplpaaBase
namespace Go.Proofs.Ytalnkdbmbjplpaa
open Go.RowKit

theorem big_any (A : Option Addr) (n c : Nat) (w : World) : Calls Try.prog 4 #[.slice A n c] w fun e w' => e = .returned (.bool (decide (1048576 < (n : Int)))) ∧ w' = w := by
  by_cases h : 1048576 < (n : Int)
  all_goals
    go_enter Try.func4, Try.ntmps4
    go_wp2_with fail
    go_ret
    exact ⟨ret_bool (by simp [h]), rfl⟩

end Go.Proofs.Ytalnkdbmbjplpaa
