/- Walks over TextOf, LessVal, SameVal, the program's and the reference's. The table of the powers of ten holds them. -/
import Derived.Test.YtkahlckjedaolaaDoorItoa
import Derived.Test.YtkahlckjedaolaaDoorNumD
import Derived.Test.YtkahlckjedaolaaDoorMem
import Derived.Deep.RegionWith
namespace Go.Proofs.YtkahlckjedaolaaDoor
open Go.RowKit

/-- What TextOf gives. -/
def vText (k n : Int) (s : ByteArray) : ByteArray := if k = 1 then itoaS n else s

set_option maxHeartbeats 400000 in
theorem iTextOf (k n : Int) (s : ByteArray) (w : World) (hT : Tab w) (h0 : -9223372036854775808 ≤ n) (h1 : n ≤ 9223372036854775807) :
    Calls Tryd.prog 11 #[.agg #[.int .i64 k, .int .i64 n, .string s]] w fun e w' => e = .returned (.string (vText k n s)) ∧ Below w.heap.size w w' := by
  by_cases hk : k = 1
  · subst hk
    go_enter Tryd.func11, Tryd.ntmps11
    go_wp2_with fail
    refine (iDigits n _ h0 h1 (hT.keep (by repeat (first | exact Below.refl _ _ | refine bl_drewN ?_ _ | refine Below.drew ?_ | refine bl_alloc ?_ _ | refine bl_set ?_ (by simp) _ | refine bl_trans ?_ (by assumption))))).mono ?_; rintro e w1 ⟨rfl, b1⟩
    go_wp2_with fail
    go_ret
    exact ⟨by simp [vText], by repeat (first | exact Below.refl _ _ | refine bl_drewN ?_ _ | refine Below.drew ?_ | refine bl_alloc ?_ _ | refine bl_set ?_ (by simp) _ | refine bl_trans ?_ (by assumption))⟩
  · have hk' : (k == 1) = false := by simp [hk]
    go_enter Tryd.func11, Tryd.ntmps11
    go_wp2_with fail
    go_ret
    exact ⟨by simp [vText, hk], by repeat (first | exact Below.refl _ _ | refine bl_drewN ?_ _ | refine Below.drew ?_ | refine bl_alloc ?_ _ | refine bl_set ?_ (by simp) _ | refine bl_trans ?_ (by assumption))⟩

set_option maxHeartbeats 400000 in
theorem sTextOf (k n : Int) (s : ByteArray) (w : World) (h0 : -9223372036854775808 ≤ n) (h1 : n ≤ 9223372036854775807) :
    Calls Tryd.prog 9 #[.agg #[.int .i64 k, .int .i64 n, .string s]] w fun e w' => e = .returned (.string (vText k n s)) ∧ Below w.heap.size w w' := by
  by_cases hk : k = 1
  · subst hk
    go_enter Tryd.func9, Tryd.ntmps9
    go_wp2_with fail
    refine (sL2Num (n.natAbs + 1) n _ (by omega) h0 h1).mono ?_; rintro e w1 ⟨rfl, b1⟩
    go_wp2_with fail
    go_ret
    exact ⟨by simp [vText], by repeat (first | exact Below.refl _ _ | refine bl_drewN ?_ _ | refine Below.drew ?_ | refine bl_alloc ?_ _ | refine bl_set ?_ (by simp) _ | refine bl_trans ?_ (by assumption))⟩
  · have hk' : (k == 1) = false := by simp [hk]
    go_enter Tryd.func9, Tryd.ntmps9
    go_wp2_with fail
    go_ret
    exact ⟨by simp [vText, hk], by repeat (first | exact Below.refl _ _ | refine bl_drewN ?_ _ | refine Below.drew ?_ | refine bl_alloc ?_ _ | refine bl_set ?_ (by simp) _ | refine bl_trans ?_ (by assumption))⟩

/-- What LessVal gives. -/
def vLess (k n : Int) (s : ByteArray) (k' n' : Int) (s' : ByteArray) : Bool := if k = 2 ∨ k' = 2 then Op.bytesLess (vText k n s).toList (vText k' n' s').toList else decide (n < n')
/-- What SameVal gives. -/
def vSame (k n : Int) (s : ByteArray) (k' n' : Int) (s' : ByteArray) : Bool := if k = 2 ∨ k' = 2 then ((vText k n s).toList == (vText k' n' s').toList) else (n == n')

end Go.Proofs.YtkahlckjedaolaaDoor
