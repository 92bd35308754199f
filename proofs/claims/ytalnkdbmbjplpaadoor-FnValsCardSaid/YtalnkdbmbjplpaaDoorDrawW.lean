/- Walks over DrawWrap, DrawPutU of the reference. At most 1048576 bytes are drawn from. -/
import Derived.Test.YtalnkdbmbjplpaaDoorDraw
import Derived.Test.YtalnkdbmbjplpaaDoorWrap
namespace Go.Proofs.YtalnkdbmbjplpaaDoor
open Go.RowKit

/-- Bytes of the call's own, and a number. -/
def RetBI (R : List Int → Int → Prop) (w : World) (e : Ending) (w' : World) : Prop := ∃ (v : Value) (zs : List Int) (x : Int), e = .returned (.tuple #[v, .int .i64 x]) ∧ R zs x ∧ Byt zs ∧ Row w' w.heap.size w'.heap.size 5 1 v zs.length (u8s zs)
theorem big_any (A : Option Addr) (n c : Nat) (w : World) : Calls Tryd.prog 4 #[.slice A n c] w fun e w' => e = .returned (.bool (decide (1048576 < (n : Int)))) ∧ w' = w := by
  by_cases h : 1048576 < (n : Int)
  all_goals
    go_enter Tryd.func4, Tryd.ntmps4
    go_wp2_with fail
    go_ret
    exact ⟨ret_bool (by simp [h]), rfl⟩

end Go.Proofs.YtalnkdbmbjplpaaDoor
