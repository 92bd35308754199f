/- Walks over values: toVal, szVal, ValOk, the program's and the reference's. No condition. -/
import Derived.Test.YtalnkdbmbjplpaaDoorWrap
namespace Go.Proofs.YtalnkdbmbjplpaaDoor
open Go.RowKit

/-- What ValOk gives. -/
def vOk (k n : Int) (s : ByteArray) : Bool :=
  if k = 0 then decide (n = 0) && decide (s.toList = []) else if k = 1 then decide (n = wrap32 n) && decide (s.toList = []) else if k = 2 then decide (n = 0) && decide (s.size ≤ 200) else false
/-- What szVal gives. -/
def szStr (left : Int) (s : ByteArray) : Int := if left - s.size < 0 then -1 else left - s.size

theorem isEmpty_dec (l : List UInt8) : l.isEmpty = decide (l = []) := by cases l <;> simp

set_option maxHeartbeats 1000000 in
theorem iValOk (k n : Int) (s : ByteArray) (w : World) :
    Calls Tryd.prog 7 #[.agg #[.int .i64 k, .int .i64 n, .string s]] w fun e w' => e = .returned (.bool (vOk k n s)) ∧ Below w.heap.size w w' := by
  by_cases h0 : k = 0
  · subst h0
    go_enter Tryd.func7, Tryd.ntmps7
    go_wp2
    all_goals go_ret
    all_goals exact ⟨ret_bool (by simp [vOk, *]), by repeat (first | exact Below.refl _ _ | refine bl_drewN ?_ _ | refine Below.drew ?_ | refine bl_alloc ?_ _ | refine bl_set ?_ (by simp) _ | refine bl_trans ?_ (by assumption))⟩
  have h0' : (k == 0) = false := by simp [h0]
  by_cases h1 : k = 1
  · subst h1
    clear h0 h0'
    by_cases hn : n = wrap32 n
    · have hb : (n == wrap32 n) = true := by simpa using hn
      have H := Lib.hid hn
      clear hn
      go_enter Tryd.func7, Tryd.ntmps7
      go_wp2
      go_quiet ((go_at_call 19; exact Calls.quiet_of_same (iWrap _ _)))
      go_wp2
      go_ret
      exact ⟨ret_bool (by simp only [vOk, decide_eq_true H.out]; simp [isEmpty_dec]), by repeat (first | exact Below.refl _ _ | refine bl_drewN ?_ _ | refine Below.drew ?_ | refine bl_alloc ?_ _ | refine bl_set ?_ (by simp) _ | refine bl_trans ?_ (by assumption))⟩
    · have hb : (n == wrap32 n) = false := by simpa using hn
      go_enter Tryd.func7, Tryd.ntmps7
      go_wp2
      go_quiet ((go_at_call 19; exact Calls.quiet_of_same (iWrap _ _)))
      go_wp2
      go_ret
      exact ⟨ret_bool (by simp [vOk, hn]), by repeat (first | exact Below.refl _ _ | refine bl_drewN ?_ _ | refine Below.drew ?_ | refine bl_alloc ?_ _ | refine bl_set ?_ (by simp) _ | refine bl_trans ?_ (by assumption))⟩
  have h1' : (k == 1) = false := by simp [h1]
  by_cases h2 : k = 2
  · subst h2
    go_enter Tryd.func7, Tryd.ntmps7
    go_wp2
    all_goals go_ret
    all_goals exact ⟨ret_bool (by simp [vOk, *] <;> omega), by repeat (first | exact Below.refl _ _ | refine bl_drewN ?_ _ | refine Below.drew ?_ | refine bl_alloc ?_ _ | refine bl_set ?_ (by simp) _ | refine bl_trans ?_ (by assumption))⟩
  · have h2' : (k == 2) = false := by simp [h2]
    go_enter Tryd.func7, Tryd.ntmps7
    go_wp2
    go_ret
    exact ⟨ret_bool (by simp [vOk, h0, h1, h2]), by repeat (first | exact Below.refl _ _ | refine bl_drewN ?_ _ | refine Below.drew ?_ | refine bl_alloc ?_ _ | refine bl_set ?_ (by simp) _ | refine bl_trans ?_ (by assumption))⟩

set_option maxHeartbeats 1000000 in
theorem sValOk (k n : Int) (s : ByteArray) (w : World) :
    Calls Tryd.prog 6 #[.agg #[.int .i64 k, .int .i64 n, .string s]] w fun e w' => e = .returned (.bool (vOk k n s)) ∧ Below w.heap.size w w' := by
  by_cases h0 : k = 0
  · subst h0
    go_enter Tryd.func6, Tryd.ntmps6
    go_wp2
    all_goals go_ret
    all_goals exact ⟨ret_bool (by simp [vOk, isEmpty_dec, *]), by repeat (first | exact Below.refl _ _ | refine bl_drewN ?_ _ | refine Below.drew ?_ | refine bl_alloc ?_ _ | refine bl_set ?_ (by simp) _ | refine bl_trans ?_ (by assumption))⟩
  have h0' : (k == 0) = false := by simp [h0]
  by_cases h1 : k = 1
  · subst h1
    clear h0 h0'
    by_cases hn : n = wrap32 n
    · have hb : (wrap32 n == n) = true := by simpa using hn.symm
      have H := Lib.hid hn
      clear hn
      go_enter Tryd.func6, Tryd.ntmps6
      go_wp2
      go_quiet ((go_at_call 18; exact Calls.quiet_of_same (sWrap _ _)))
      go_wp2
      go_ret
      exact ⟨ret_bool (by simp only [vOk, decide_eq_true H.out]; simp [isEmpty_dec]), by repeat (first | exact Below.refl _ _ | refine bl_drewN ?_ _ | refine Below.drew ?_ | refine bl_alloc ?_ _ | refine bl_set ?_ (by simp) _ | refine bl_trans ?_ (by assumption))⟩
    · have hb : (wrap32 n == n) = false := by simpa using fun e => hn e.symm
      go_enter Tryd.func6, Tryd.ntmps6
      go_wp2
      go_quiet ((go_at_call 18; exact Calls.quiet_of_same (sWrap _ _)))
      go_wp2
      go_ret
      exact ⟨ret_bool (by simp [vOk, hn]), by repeat (first | exact Below.refl _ _ | refine bl_drewN ?_ _ | refine Below.drew ?_ | refine bl_alloc ?_ _ | refine bl_set ?_ (by simp) _ | refine bl_trans ?_ (by assumption))⟩
  have h1' : (k == 1) = false := by simp [h1]
  by_cases h2 : k = 2
  · subst h2
    by_cases hs : s.size ≤ 200
    · have hs' : (s.size : Int) ≤ 200 := by omega
      go_enter Tryd.func6, Tryd.ntmps6
      go_wp2
      go_ret
      exact ⟨ret_bool (by simp [vOk, hs]; rfl), by repeat (first | exact Below.refl _ _ | refine bl_drewN ?_ _ | refine Below.drew ?_ | refine bl_alloc ?_ _ | refine bl_set ?_ (by simp) _ | refine bl_trans ?_ (by assumption))⟩
    · have hs' : 200 < (s.size : Int) := by omega
      go_enter Tryd.func6, Tryd.ntmps6
      go_wp2
      go_ret
      exact ⟨ret_bool (by simp [vOk, hs]), by repeat (first | exact Below.refl _ _ | refine bl_drewN ?_ _ | refine Below.drew ?_ | refine bl_alloc ?_ _ | refine bl_set ?_ (by simp) _ | refine bl_trans ?_ (by assumption))⟩
  · have h2' : (k == 2) = false := by simp [h2]
    go_enter Tryd.func6, Tryd.ntmps6
    go_wp2
    go_ret
    exact ⟨ret_bool (by simp [vOk, h0, h1, h2]), by repeat (first | exact Below.refl _ _ | refine bl_drewN ?_ _ | refine Below.drew ?_ | refine bl_alloc ?_ _ | refine bl_set ?_ (by simp) _ | refine bl_trans ?_ (by assumption))⟩

end Go.Proofs.YtalnkdbmbjplpaaDoor
