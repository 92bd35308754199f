/- Walks over LessVal, the reference's. The table of the powers of ten holds them. -/
import Derived.Test.YtkahlckjedaolaaDoorCmp
namespace Go.Proofs.YtkahlckjedaolaaDoor
open Go.RowKit

set_option maxHeartbeats 1000000 in
theorem sLessVal (k n k' n' : Int) (s s' : ByteArray) (w : World) (h0 : -9223372036854775808 ≤ n) (h1 : n ≤ 9223372036854775807) (h0' : -9223372036854775808 ≤ n') (h1' : n' ≤ 9223372036854775807) :
    Calls Tryd.prog 12 #[.agg #[.int .i64 k, .int .i64 n, .string s], .agg #[.int .i64 k', .int .i64 n', .string s']] w fun e w' => e = .returned (.bool (vLess k n s k' n' s')) ∧ Below w.heap.size w w' := by
  by_cases hk : k = 2
  · subst hk
    have B2 : Blk ((w.alloc (.cells #[.int .i64 2, .int .i64 n, .string s] 26)).alloc (.cells #[.int .i64 k', .int .i64 n', .string s'] 26)) (w.heap.size + 1) 26 #[.int .i64 k', .int .i64 n', .string s'] := heap_alloc2_new w _ _
    go_enter Tryd.func12, Tryd.ntmps12
    go_wp2_with fail
    go_region_with (first
        | (go_at_call_of 9 (Value.agg #[.int .i64 2, .int .i64 n, .string s]); refine (sTextOf 2 n s _ h0 h1).mono ?_; rintro e w1 ⟨rfl, b1⟩; have b1' := bl_trans (a := ((w.alloc (.cells #[.int .i64 2, .int .i64 n, .string s] 26)).alloc (.cells #[.int .i64 k', .int .i64 n', .string s'] 26))) (by repeat (first | exact Below.refl _ _ | refine bl_drewN ?_ _ | refine Below.drew ?_ | refine bl_alloc ?_ _)) b1; have c2 := (B2.keep b1').cell)
        | (go_at_call_of 9 (Value.agg #[.int .i64 k', .int .i64 n', .string s']); refine (sTextOf k' n' s' _ h0' h1').mono ?_; rintro e w2 ⟨rfl, b2⟩))
    all_goals (go_wp2_with fail)
    all_goals go_ret
    all_goals exact ⟨ret_bool (by unfold vLess; rw [if_pos (by first | exact .inl rfl | exact .inr rfl)]), by repeat (first | exact Below.refl _ _ | refine bl_drewN ?_ _ | refine Below.drew ?_ | refine bl_alloc ?_ _ | refine bl_set ?_ (by simp) _ | refine bl_trans ?_ (by assumption))⟩
  have hkb : (k == 2) = false := by simp [hk]
  have hkc : (k != 2) = true := by simp [hk]
  by_cases hk' : k' = 2
  · subst hk'
    have B2 : Blk ((w.alloc (.cells #[.int .i64 k, .int .i64 n, .string s] 26)).alloc (.cells #[.int .i64 2, .int .i64 n', .string s'] 26)) (w.heap.size + 1) 26 #[.int .i64 2, .int .i64 n', .string s'] := heap_alloc2_new w _ _
    go_enter Tryd.func12, Tryd.ntmps12
    go_wp2_with fail
    go_region_with (first
        | (go_at_call_of 9 (Value.agg #[.int .i64 k, .int .i64 n, .string s]); refine (sTextOf k n s _ h0 h1).mono ?_; rintro e w1 ⟨rfl, b1⟩; have b1' := bl_trans (a := ((w.alloc (.cells #[.int .i64 k, .int .i64 n, .string s] 26)).alloc (.cells #[.int .i64 2, .int .i64 n', .string s'] 26))) (by repeat (first | exact Below.refl _ _ | refine bl_drewN ?_ _ | refine Below.drew ?_ | refine bl_alloc ?_ _)) b1; have c2 := (B2.keep b1').cell)
        | (go_at_call_of 9 (Value.agg #[.int .i64 2, .int .i64 n', .string s']); refine (sTextOf 2 n' s' _ h0' h1').mono ?_; rintro e w2 ⟨rfl, b2⟩))
    all_goals (go_wp2_with fail)
    all_goals go_ret
    all_goals exact ⟨ret_bool (by unfold vLess; rw [if_pos (by first | exact .inl rfl | exact .inr rfl)]), by repeat (first | exact Below.refl _ _ | refine bl_drewN ?_ _ | refine Below.drew ?_ | refine bl_alloc ?_ _ | refine bl_set ?_ (by simp) _ | refine bl_trans ?_ (by assumption))⟩
  · have hkb' : (k' == 2) = false := by simp [hk']
    have hkc' : (k' != 2) = true := by simp [hk']
    go_enter Tryd.func12, Tryd.ntmps12
    go_wp2_with fail
    all_goals (go_wp2_with fail)
    all_goals go_ret
    all_goals exact ⟨ret_bool (by unfold vLess; rw [if_neg (by omega)]), by repeat (first | exact Below.refl _ _ | refine bl_drewN ?_ _ | refine Below.drew ?_ | refine bl_alloc ?_ _ | refine bl_set ?_ (by simp) _ | refine bl_trans ?_ (by assumption))⟩

end Go.Proofs.YtkahlckjedaolaaDoor
