/- Walks over SameVal, the program's. The table of the powers of ten holds them. -/
import Derived.Test.YtkahlckjedaolaaDoorCmp
namespace Go.Proofs.YtkahlckjedaolaaDoor
open Go.RowKit

set_option maxHeartbeats 1000000 in
theorem iSameVal (k n k' n' : Int) (s s' : ByteArray) (w : World) (hT : Tab w) (h0 : -9223372036854775808 ≤ n) (h1 : n ≤ 9223372036854775807) (h0' : -9223372036854775808 ≤ n') (h1' : n' ≤ 9223372036854775807) (hs : s.size ≤ 1073741824) (hs' : s'.size ≤ 1073741824) :
    Calls Tryd.prog 15 #[.agg #[.int .i64 k, .int .i64 n, .string s], .agg #[.int .i64 k', .int .i64 n', .string s']] w fun e w' => e = .returned (.bool (vSame k n s k' n' s')) ∧ Below w.heap.size w w' := by
  by_cases hk : k = 2
  · subst hk
    have B2 : Blk ((w.alloc (.cells #[.int .i64 2, .int .i64 n, .string s] 26)).alloc (.cells #[.int .i64 k', .int .i64 n', .string s'] 26)) (w.heap.size + 1) 26 #[.int .i64 k', .int .i64 n', .string s'] := heap_alloc2_new w _ _
    go_enter Tryd.func15, Tryd.ntmps15
    go_wp2_with fail
    go_region_with (first
        | (go_at_call_of 11 (Value.agg #[.int .i64 2, .int .i64 n, .string s]); refine (iTextOf 2 n s _ (hT.keep (by repeat (first | exact Below.refl _ _ | refine bl_drewN ?_ _ | refine Below.drew ?_ | refine bl_alloc ?_ _))) h0 h1).mono ?_; rintro e w1 ⟨rfl, b1⟩; have b1' := bl_trans (a := ((w.alloc (.cells #[.int .i64 2, .int .i64 n, .string s] 26)).alloc (.cells #[.int .i64 k', .int .i64 n', .string s'] 26))) (by repeat (first | exact Below.refl _ _ | refine bl_drewN ?_ _ | refine Below.drew ?_ | refine bl_alloc ?_ _)) b1; have hT1 := hT.keep (bl_trans (a := w) (by repeat (first | exact Below.refl _ _ | refine bl_drewN ?_ _ | refine Below.drew ?_ | refine bl_alloc ?_ _)) b1); have c2 := (B2.keep b1').cell)
        | (go_at_call_of 11 (Value.agg #[.int .i64 k', .int .i64 n', .string s']); refine (iTextOf k' n' s' _ hT1 h0' h1').mono ?_; rintro e w2 ⟨rfl, b2⟩))
    all_goals (go_wp2_with fail)
    all_goals go_ret
    all_goals exact ⟨ret_bool (by unfold vSame; rw [if_pos (by first | exact .inl rfl | exact .inr rfl)]), by repeat (first | exact Below.refl _ _ | refine bl_drewN ?_ _ | refine Below.drew ?_ | refine bl_alloc ?_ _ | refine bl_set ?_ (by simp) _ | refine bl_trans ?_ (by assumption))⟩
  have hkb : (k == 2) = false := by simp [hk]
  have hkc : (k != 2) = true := by simp [hk]
  by_cases hk' : k' = 2
  · subst hk'
    have B2 : Blk ((w.alloc (.cells #[.int .i64 k, .int .i64 n, .string s] 26)).alloc (.cells #[.int .i64 2, .int .i64 n', .string s'] 26)) (w.heap.size + 1) 26 #[.int .i64 2, .int .i64 n', .string s'] := heap_alloc2_new w _ _
    go_enter Tryd.func15, Tryd.ntmps15
    go_wp2_with fail
    go_region_with (first
        | (go_at_call_of 11 (Value.agg #[.int .i64 k, .int .i64 n, .string s]); refine (iTextOf k n s _ (hT.keep (by repeat (first | exact Below.refl _ _ | refine bl_drewN ?_ _ | refine Below.drew ?_ | refine bl_alloc ?_ _))) h0 h1).mono ?_; rintro e w1 ⟨rfl, b1⟩; have b1' := bl_trans (a := ((w.alloc (.cells #[.int .i64 k, .int .i64 n, .string s] 26)).alloc (.cells #[.int .i64 2, .int .i64 n', .string s'] 26))) (by repeat (first | exact Below.refl _ _ | refine bl_drewN ?_ _ | refine Below.drew ?_ | refine bl_alloc ?_ _)) b1; have hT1 := hT.keep (bl_trans (a := w) (by repeat (first | exact Below.refl _ _ | refine bl_drewN ?_ _ | refine Below.drew ?_ | refine bl_alloc ?_ _)) b1); have c2 := (B2.keep b1').cell)
        | (go_at_call_of 11 (Value.agg #[.int .i64 2, .int .i64 n', .string s']); refine (iTextOf 2 n' s' _ hT1 h0' h1').mono ?_; rintro e w2 ⟨rfl, b2⟩))
    all_goals (go_wp2_with fail)
    all_goals go_ret
    all_goals exact ⟨ret_bool (by unfold vSame; rw [if_pos (by first | exact .inl rfl | exact .inr rfl)]), by repeat (first | exact Below.refl _ _ | refine bl_drewN ?_ _ | refine Below.drew ?_ | refine bl_alloc ?_ _ | refine bl_set ?_ (by simp) _ | refine bl_trans ?_ (by assumption))⟩
  · have hkb' : (k' == 2) = false := by simp [hk']
    have hkc' : (k' != 2) = true := by simp [hk']
    have B2 : Blk ((w.alloc (.cells #[.int .i64 k, .int .i64 n, .string s] 26)).alloc (.cells #[.int .i64 k', .int .i64 n', .string s'] 26)) (w.heap.size + 1) 26 #[.int .i64 k', .int .i64 n', .string s'] := heap_alloc2_new w _ _
    go_enter Tryd.func15, Tryd.ntmps15
    go_wp2_with fail
    go_region_with (first
        | (go_at_call_of 28 (Value.agg #[.int .i64 k, .int .i64 n, .string s]); refine (iNumOf k n s _ hs).mono ?_; rintro e w1 ⟨rfl, b1⟩; have b1' := bl_trans (a := ((w.alloc (.cells #[.int .i64 k, .int .i64 n, .string s] 26)).alloc (.cells #[.int .i64 k', .int .i64 n', .string s'] 26))) (by repeat (first | exact Below.refl _ _ | refine bl_drewN ?_ _ | refine Below.drew ?_ | refine bl_alloc ?_ _)) b1; have c2 := (B2.keep b1').cell)
        | (go_at_call_of 28 (Value.agg #[.int .i64 k', .int .i64 n', .string s']); refine (iNumOf k' n' s' _ hs').mono ?_; rintro e w2 ⟨rfl, b2⟩))
    all_goals (go_wp2_with fail)
    all_goals go_ret
    all_goals exact ⟨ret_bool (by rw [show vNum k n s = n from if_neg hk, show vNum k' n' s' = n' from if_neg hk']; unfold vSame; rw [if_neg (by omega)]), by repeat (first | exact Below.refl _ _ | refine bl_drewN ?_ _ | refine Below.drew ?_ | refine bl_alloc ?_ _ | refine bl_set ?_ (by simp) _ | refine bl_trans ?_ (by assumption))⟩

end Go.Proofs.YtkahlckjedaolaaDoor
