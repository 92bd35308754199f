/- Walks over TextOf, LessVal, SameVal, the program's and the reference's. The table of the powers of ten holds them. -/
import Derived.Test.YtalnkdbmbjplpaaDoorItoa
import Derived.Test.YtalnkdbmbjplpaaDoorNumD
import Derived.Test.YtalnkdbmbjplpaaDoorMem
import Derived.Deep.RegionWith
namespace Go.Proofs.YtalnkdbmbjplpaaDoor
open Go.RowKit

/-- What TextOf gives. -/
def vText (k n : Int) (s : ByteArray) : ByteArray := if k = 1 then itoaS n else s

set_option maxHeartbeats 400000 in
theorem iTextOf (k n : Int) (s : ByteArray) (w : World) (hT : Tab w) (h0 : -9223372036854775808 ≤ n) (h1 : n ≤ 9223372036854775807) :
    Calls Tryd.prog 10 #[.agg #[.int .i64 k, .int .i64 n, .string s]] w fun e w' => e = .returned (.string (vText k n s)) ∧ Below w.heap.size w w' := by
  by_cases hk : k = 1
  · subst hk
    go_enter Tryd.func10, Tryd.ntmps10
    go_wp2_with fail
    refine (iDigits n _ h0 h1 (hT.keep (by repeat (first | exact Below.refl _ _ | refine bl_drewN ?_ _ | refine Below.drew ?_ | refine bl_alloc ?_ _ | refine bl_set ?_ (by simp) _ | refine bl_trans ?_ (by assumption))))).mono ?_; rintro e w1 ⟨rfl, b1⟩
    go_wp2_with fail
    go_ret
    exact ⟨by simp [vText], by repeat (first | exact Below.refl _ _ | refine bl_drewN ?_ _ | refine Below.drew ?_ | refine bl_alloc ?_ _ | refine bl_set ?_ (by simp) _ | refine bl_trans ?_ (by assumption))⟩
  · have hk' : (k == 1) = false := by simp [hk]
    go_enter Tryd.func10, Tryd.ntmps10
    go_wp2_with fail
    go_ret
    exact ⟨by simp [vText, hk], by repeat (first | exact Below.refl _ _ | refine bl_drewN ?_ _ | refine Below.drew ?_ | refine bl_alloc ?_ _ | refine bl_set ?_ (by simp) _ | refine bl_trans ?_ (by assumption))⟩

/-- What LessVal gives. -/
def vLess (k n : Int) (s : ByteArray) (k' n' : Int) (s' : ByteArray) : Bool := if k = 2 ∨ k' = 2 then Op.bytesLess (vText k n s).toList (vText k' n' s').toList else decide (n < n')
/-- What SameVal gives. -/
def vSame (k n : Int) (s : ByteArray) (k' n' : Int) (s' : ByteArray) : Bool := if k = 2 ∨ k' = 2 then ((vText k n s).toList == (vText k' n' s').toList) else (n == n')

end Go.Proofs.YtalnkdbmbjplpaaDoor
