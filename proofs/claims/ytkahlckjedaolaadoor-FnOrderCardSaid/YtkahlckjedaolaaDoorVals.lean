/- Walks over Truth, the program's and the reference's. No condition. -/
import Derived.Test.YtkahlckjedaolaaDoorVal
namespace Go.Proofs.YtkahlckjedaolaaDoor
open Go.RowKit

/-- What Truth gives. -/
def vTruth (k n : Int) (s : ByteArray) : Bool := if k = 2 then !decide (s.toList = []) else !decide (n = 0)

set_option maxHeartbeats 400000 in
theorem sTruth (k n : Int) (s : ByteArray) (w : World) :
    Calls Tryd.prog 19 #[.agg #[.int .i64 k, .int .i64 n, .string s]] w fun e w' => e = .returned (.bool (vTruth k n s)) ∧ Below w.heap.size w w' := by
  by_cases hk : k = 2
  · subst hk
    go_enter Tryd.func19, Tryd.ntmps19
    go_wp2
    go_ret
    exact ⟨ret_bool (by simp [vTruth, isEmpty_dec]), by repeat (first | exact Below.refl _ _ | refine bl_drewN ?_ _ | refine Below.drew ?_ | refine bl_alloc ?_ _ | refine bl_set ?_ (by simp) _ | refine bl_trans ?_ (by assumption))⟩
  · have hk' : (k == 2) = false := by simp [hk]
    go_enter Tryd.func19, Tryd.ntmps19
    go_wp2
    go_ret
    exact ⟨ret_bool (by simp [vTruth, hk]; rfl), by repeat (first | exact Below.refl _ _ | refine bl_drewN ?_ _ | refine Below.drew ?_ | refine bl_alloc ?_ _ | refine bl_set ?_ (by simp) _ | refine bl_trans ?_ (by assumption))⟩

set_option maxHeartbeats 400000 in
theorem iTruth (k n : Int) (s : ByteArray) (w : World) :
    Calls Tryd.prog 18 #[.agg #[.int .i64 k, .int .i64 n, .string s]] w fun e w' => e = .returned (.bool (vTruth k n s)) ∧ Below w.heap.size w w' := by
  by_cases hk : k = 2
  · subst hk
    go_enter Tryd.func18, Tryd.ntmps18
    go_wp2
    go_ret
    exact ⟨ret_bool (by simp [vTruth, isEmpty_dec]), by repeat (first | exact Below.refl _ _ | refine bl_drewN ?_ _ | refine Below.drew ?_ | refine bl_alloc ?_ _ | refine bl_set ?_ (by simp) _ | refine bl_trans ?_ (by assumption))⟩
  · have hk' : (k == 2) = false := by simp [hk]
    go_enter Tryd.func18, Tryd.ntmps18
    go_wp2
    go_ret
    exact ⟨ret_bool (by simp [vTruth, hk]; rfl), by repeat (first | exact Below.refl _ _ | refine bl_drewN ?_ _ | refine Below.drew ?_ | refine bl_alloc ?_ _ | refine bl_set ?_ (by simp) _ | refine bl_trans ?_ (by assumption))⟩

end Go.Proofs.YtkahlckjedaolaaDoor
