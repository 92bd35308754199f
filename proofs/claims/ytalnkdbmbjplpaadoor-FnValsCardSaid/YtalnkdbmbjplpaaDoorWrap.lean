/- Walks of Wrap, the program's and the reference's. No condition. -/
import Derived.Test.YtalnkdbmbjplpaaDoorBase
namespace Go.Proofs.YtalnkdbmbjplpaaDoor
open Go.RowKit

set_option maxHeartbeats 400000 in
theorem iWrap (n : Int) (w : World) :
    Calls Tryd.prog 19 #[.int .i64 n] w fun e w' => e = .returned (.int .i64 (wrap32 n)) ∧ w' = w := by
  go_enter Tryd.func19, Tryd.ntmps19
  go_wp2
  go_ret
  exact ⟨ret_int (wrap64_wrap32 n), rfl⟩

set_option maxHeartbeats 400000 in
theorem sWrap (n : Int) (w : World) :
    Calls Tryd.prog 18 #[.int .i64 n] w fun e w' => e = .returned (.int .i64 (wrap32 n)) ∧ w' = w := by
  have h := and_u32 n
  by_cases hc : 2147483647 < bits .and .i64 n 4294967295
  all_goals
    have H := Lib.hid h
    clear h
    go_enter Tryd.func18, Tryd.ntmps18
    go_wp2
    go_ret
    have h := H.out
    refine ⟨ret_int ?_, rfl⟩
    rw [h] at hc
    simp only [h]
    unfold wrap32
    first | omega | (unfold wrap64; omega)
end Go.Proofs.YtalnkdbmbjplpaaDoor
