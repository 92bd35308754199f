/- Walks over TokenOk, the program's and the reference's. A text's length is at most 1048576. -/
import Derived.Test.YtjpefadalinhoaaDoorTok
import Derived.Test.YtjpefadalinhoaaDoorMarkI
import Derived.Deep.RegionHeld3
namespace Go.Proofs.YtjpefadalinhoaaDoor
open Go.RowKit

/-- Is a token right. -/
noncomputable def tokB (k n : Int) (s : ByteArray) : Bool :=
  if k = 1 then inI n 0 2147483647 && s.toList.isEmpty else if k = 2 then nameB s && (n == 0) else if k = 3 then plainB s 39 && decide (s.size ≤ 200) && (n == 0)
  else if k = 4 then plainB s 47 && decide (s.size ≤ 200) && !s.toList.isEmpty && (n == 0) else if k = 5 then mkL s.toList && (n == 0) else false
theorem mkL_nil {l : List UInt8} (h : l.isEmpty = true) : mkL l = false := by
  cases l with
  | nil => rfl
  | cons a l => cases h
theorem isEmpty_size (s : ByteArray) : decide (0 < s.size) = !s.toList.isEmpty := by
  rcases Nat.eq_zero_or_pos s.size with h | h
  · rw [toList_none s h, h]; rfl
  · rw [toList_nonempty s h, decide_eq_true h]; rfl

set_option maxHeartbeats 2000000 in
theorem iTokenOk (k n : Int) (s : ByteArray) (w : World) (hs : s.size ≤ 1048576) :
    Calls Tryd.prog 16 #[.agg #[.int .i64 k, .int .i64 n, .string s]] w fun e w' => e = .returned (.bool (tokB k n s)) ∧ Below w.heap.size w w' := by
  by_cases k1 : k = 1
  · subst k1
    rw [show tokB 1 n s = (inI n 0 2147483647 && s.toList.isEmpty) from rfl]
    cases h : inI n 0 2147483647
    · go_enter Tryd.func16, Tryd.ntmps16
      go_wp2_with fail
      refine (iWithin _ _ _ _).mono ?_; rintro e w1 ⟨rfl, rfl⟩
      rw [h]
      go_wp2_with fail
      go_ret
      exact ⟨ret_bool (by rfl), by repeat (first | exact Below.refl _ _ | refine bl_drewN ?_ _ | refine Below.drew ?_ | refine bl_alloc ?_ _ | refine bl_set ?_ (by simp) _ | refine bl_trans ?_ (by assumption))⟩
    · go_enter Tryd.func16, Tryd.ntmps16
      go_wp2_with fail
      refine (iWithin _ _ _ _).mono ?_; rintro e w1 ⟨rfl, rfl⟩
      rw [h]
      go_wp2_with fail
      go_ret
      exact ⟨ret_bool (by simp), by repeat (first | exact Below.refl _ _ | refine bl_drewN ?_ _ | refine Below.drew ?_ | refine bl_alloc ?_ _ | refine bl_set ?_ (by simp) _ | refine bl_trans ?_ (by assumption))⟩
  have q1 : (k == 1) = false := by simp [k1]
  by_cases k2 : k = 2
  · subst k2
    rw [show tokB 2 n s = (nameB s && (n == 0)) from rfl]
    cases hn : (n == 0)
    · rw [Bool.and_false]
      go_enter Tryd.func16, Tryd.ntmps16
      go_wp2_with fail
      go_ret
      exact ⟨rfl, by repeat (first | exact Below.refl _ _ | refine bl_drewN ?_ _ | refine Below.drew ?_ | refine bl_alloc ?_ _ | refine bl_set ?_ (by simp) _ | refine bl_trans ?_ (by assumption))⟩
    · rw [Bool.and_true]
      go_enter Tryd.func16, Tryd.ntmps16
      go_wp2_with fail
      refine (iName s _ hs).mono ?_; rintro e w1 ⟨rfl, rfl⟩
      go_wp2_with fail
      go_ret
      exact ⟨ret_bool (rfl), by repeat (first | exact Below.refl _ _ | refine bl_drewN ?_ _ | refine Below.drew ?_ | refine bl_alloc ?_ _ | refine bl_set ?_ (by simp) _ | refine bl_trans ?_ (by assumption))⟩
  have q2 : (k == 2) = false := by simp [k2]
  by_cases k3 : k = 3
  · subst k3
    rw [show tokB 3 n s = (plainB s 39 && decide (s.size ≤ 200) && (n == 0)) from rfl]
    cases hn : (n == 0)
    · rw [Bool.and_false]
      go_enter Tryd.func16, Tryd.ntmps16
      go_wp2_with fail
      go_ret
      exact ⟨rfl, by repeat (first | exact Below.refl _ _ | refine bl_drewN ?_ _ | refine Below.drew ?_ | refine bl_alloc ?_ _ | refine bl_set ?_ (by simp) _ | refine bl_trans ?_ (by assumption))⟩
    · rw [Bool.and_true]
      go_enter Tryd.func16, Tryd.ntmps16
      go_wp2_with fail
      refine (iTextOk s _ hs).mono ?_; rintro e w1 ⟨rfl, rfl⟩
      go_wp2_with fail
      go_ret
      exact ⟨ret_bool (rfl), by repeat (first | exact Below.refl _ _ | refine bl_drewN ?_ _ | refine Below.drew ?_ | refine bl_alloc ?_ _ | refine bl_set ?_ (by simp) _ | refine bl_trans ?_ (by assumption))⟩
  have q3 : (k == 3) = false := by simp [k3]
  by_cases k4 : k = 4
  · subst k4
    rw [show tokB 4 n s = (plainB s 47 && decide (s.size ≤ 200) && !s.toList.isEmpty && (n == 0)) from rfl]
    cases hn : (n == 0)
    · rw [Bool.and_false]
      go_enter Tryd.func16, Tryd.ntmps16
      go_wp2_with fail
      go_ret
      exact ⟨rfl, by repeat (first | exact Below.refl _ _ | refine bl_drewN ?_ _ | refine Below.drew ?_ | refine bl_alloc ?_ _ | refine bl_set ?_ (by simp) _ | refine bl_trans ?_ (by assumption))⟩
    · rw [Bool.and_true]
      go_enter Tryd.func16, Tryd.ntmps16
      go_wp2_with fail
      refine (iRexText s _ hs).mono ?_; rintro e w1 ⟨rfl, rfl⟩
      go_wp2_with fail
      go_ret
      exact ⟨ret_bool (by rw [← isEmpty_size]), by repeat (first | exact Below.refl _ _ | refine bl_drewN ?_ _ | refine Below.drew ?_ | refine bl_alloc ?_ _ | refine bl_set ?_ (by simp) _ | refine bl_trans ?_ (by assumption))⟩
  have q4 : (k == 4) = false := by simp [k4]
  by_cases k5 : k = 5
  · subst k5
    rw [show tokB 5 n s = (mkL s.toList && (n == 0)) from rfl]
    cases hn : (n == 0)
    · rw [Bool.and_false]
      go_enter Tryd.func16, Tryd.ntmps16
      go_wp2_with fail
      go_quiet (fail)
      go_wp2_with fail
      go_ret
      exact ⟨rfl, by repeat (first | exact Below.refl _ _ | refine bl_drewN ?_ _ | refine Below.drew ?_ | refine bl_alloc ?_ _ | refine bl_set ?_ (by simp) _ | refine bl_trans ?_ (by assumption))⟩
    · rw [Bool.and_true]
      rcases Nat.eq_zero_or_pos s.size with h0 | h0
      · have he := toList_none s h0
        rw [mkL_nil he]
        go_enter Tryd.func16, Tryd.ntmps16
        go_wp2_with fail
        go_quiet (fail)
        go_wp2_with fail
        go_ret
        exact ⟨rfl, by repeat (first | exact Below.refl _ _ | refine bl_drewN ?_ _ | refine Below.drew ?_ | refine bl_alloc ?_ _ | refine bl_set ?_ (by simp) _ | refine bl_trans ?_ (by assumption))⟩
      · have he := toList_nonempty s h0
        go_enter Tryd.func16, Tryd.ntmps16
        go_wp2_with fail
        refine wp_region_held_drew (S := (fun x => Blk x w.heap.size 26 #[.int .i64 5, .int .i64 n, .string s])) (by kernel_rfl) ?_ (fun hHeld => ?_)
        · exact (Blk.new w 26 #[.int .i64 5, .int .i64 n, .string s]).drew
        refine wpAnyH_take (i := 0) (oi := ⟨some 47, _, _, _, _, _⟩) (v := ?_) rfl (by kernel_rfl) (by kernel_rfl) (by kernel_rfl) (fun _ _ _ h => h) (Or.inl ⟨by rfl, ?_⟩) (by assumption) ?_
        case refine_2 => (intro w hSw; have p := hSw.cell; go_simp; first | done | with_reducible rfl)
        simp only [Act.put, List.setIfInBounds_toArray, List.set_cons_zero, List.set_cons_succ]
        refine wpAnyH_take (i := 1) (oi := ⟨some 48, _, _, _, _, _⟩) (v := ?_) rfl (by kernel_rfl) (by kernel_rfl) (by kernel_rfl) (fun _ _ _ h => h) (Or.inl ⟨by rfl, ?_⟩) (by assumption) ?_
        case refine_2 => (intro w hSw; have p := hSw.cell; go_simp; first | done | with_reducible rfl)
        simp only [Act.put, List.setIfInBounds_toArray, List.set_cons_zero, List.set_cons_succ]
        refine wpAnyH_take (i := 2) (oi := ⟨some 49, _, _, _, _, _⟩) (v := ?_) rfl (by kernel_rfl) (by kernel_rfl) (by kernel_rfl) (fun _ _ _ h => h) (Or.inl ⟨by rfl, ?_⟩) (by assumption) ?_
        case refine_2 => (intro w hSw; have p := hSw.cell; go_simp; first | done | with_reducible rfl)
        simp only [Act.put, List.setIfInBounds_toArray, List.set_cons_zero, List.set_cons_succ]
        refine wpAnyH_take (i := 3) (oi := ⟨some 50, _, _, _, _, _⟩) (v := ?_) rfl (by kernel_rfl) (by kernel_rfl) (by kernel_rfl) (fun _ _ _ h => h) (Or.inl ⟨by rfl, ?_⟩) (by assumption) ?_
        case refine_2 => (intro w hSw; have p := hSw.cell; go_simp; first | done | with_reducible rfl)
        simp only [Act.put, List.setIfInBounds_toArray, List.set_cons_zero, List.set_cons_succ]
        refine wpAnyH_take (i := 4) (oi := ⟨some 51, _, _, _, _, _⟩) (v := ?_) rfl (by kernel_rfl) (by kernel_rfl) (by kernel_rfl) (fun _ _ _ h => h) (Or.inl ⟨by rfl, ?_⟩) (by assumption) ?_
        case refine_2 => (intro w hSw; have p := hSw.cell; go_simp; first | done | with_reducible rfl)
        simp only [Act.put, List.setIfInBounds_toArray, List.set_cons_zero, List.set_cons_succ]
        refine wpAnyH_take (i := 5) (oi := ⟨some 52, _, _, _, _, _⟩) (v := ?_) rfl (by kernel_rfl) (by kernel_rfl) (by kernel_rfl) (fun _ _ _ h => h) (Or.inl ⟨by rfl, ?_⟩) (by assumption) ?_
        case refine_2 => (intro w hSw; have p := hSw.cell; go_simp; first | done | with_reducible rfl)
        simp only [Act.put, List.setIfInBounds_toArray, List.set_cons_zero, List.set_cons_succ]
        refine wpAnyH_take (i := 6) (oi := ⟨some 53, _, _, _, _, _⟩) (v := ?_) rfl (by kernel_rfl) (by kernel_rfl) (by kernel_rfl) (fun _ _ _ h => h) (Or.inl ⟨by rfl, ?_⟩) (by assumption) ?_
        case refine_2 => (intro w hSw; have p := hSw.cell; go_simp; first | done | with_reducible rfl)
        simp only [Act.put, List.setIfInBounds_toArray, List.set_cons_zero, List.set_cons_succ]
        refine wpAnyH_take (i := 7) (oi := ⟨some 54, _, _, _, _, _⟩) (v := ?_) rfl (by kernel_rfl) (by kernel_rfl) (by kernel_rfl) (fun _ _ _ h => h) (Or.inl ⟨by rfl, ?_⟩) (by assumption) ?_
        case refine_2 => (intro w hSw; have p := hSw.cell; go_simp; first | done | with_reducible rfl)
        simp only [Act.put, List.setIfInBounds_toArray, List.set_cons_zero, List.set_cons_succ]
        refine wpAnyH_take (i := 8) (oi := ⟨some 55, _, _, _, _, _⟩) (v := ?_) rfl (by kernel_rfl) (by kernel_rfl) (by kernel_rfl) (fun _ _ _ h => h) (Or.inl ⟨by rfl, ?_⟩) (by assumption) ?_
        case refine_2 => (intro w hSw; have p := hSw.cell; go_simp; first | done | with_reducible rfl)
        simp only [Act.put, List.setIfInBounds_toArray, List.set_cons_zero, List.set_cons_succ]
        refine wpAnyH_take (i := 9) (oi := ⟨some 56, _, _, _, _, _⟩) (v := ?_) rfl (by kernel_rfl) (by kernel_rfl) (by kernel_rfl) (fun _ _ _ h => h) (Or.inl ⟨by rfl, ?_⟩) (by assumption) ?_
        case refine_2 => (intro w hSw; have p := hSw.cell; go_simp; first | done | with_reducible rfl)
        simp only [Act.put, List.setIfInBounds_toArray, List.set_cons_zero, List.set_cons_succ]
        refine wpAnyH_take (i := 10) (oi := ⟨some 57, _, _, _, _, _⟩) (v := ?_) rfl (by kernel_rfl) (by kernel_rfl) (by kernel_rfl) (fun _ _ _ h => h) (Or.inl ⟨by rfl, ?_⟩) (by assumption) ?_
        case refine_2 => (intro w hSw; have p := hSw.cell; go_simp; first | done | with_reducible rfl)
        simp only [Act.put, List.setIfInBounds_toArray, List.set_cons_zero, List.set_cons_succ]
        refine wpAnyH_take (i := 12) (oi := ⟨some 59, _, _, _, _, _⟩) (v := ?_) rfl (by kernel_rfl) (by kernel_rfl) (by kernel_rfl) (fun _ _ _ h => h) (Or.inl ⟨by rfl, ?_⟩) (by assumption) ?_
        case refine_2 => (intro w hSw; have p := hSw.cell; go_simp; first | done | with_reducible rfl)
        simp only [Act.put, List.setIfInBounds_toArray, List.set_cons_zero, List.set_cons_succ]
        refine wpAnyH_take (i := 13) (oi := ⟨some 60, _, _, _, _, _⟩) (v := ?_) rfl (by kernel_rfl) (by kernel_rfl) (by kernel_rfl) (fun _ _ _ h => h) (Or.inl ⟨by rfl, ?_⟩) (by assumption) ?_
        case refine_2 => (intro w hSw; have p := hSw.cell; go_simp; first | done | with_reducible rfl)
        simp only [Act.put, List.setIfInBounds_toArray, List.set_cons_zero, List.set_cons_succ]
        refine wpAnyH_ready (rs := [11]) (by kernel_rfl) (by simp) ?_
        refine AllReadyH.cons (o := ⟨some 58, _, _, _, _, _⟩) rfl (fun K hK => ?_) AllReadyH.nil
        go_simp
        refine (iMark s _ hs).mono ?_; rintro e w1 ⟨⟨m, rfl, hm⟩, b1⟩
        go_wp2_with fail
        refine hK.out _ _ (hHeld.keep b1) (fun hHeld => ?_)
        clear hK K
        try simp only [Act.put, List.setIfInBounds_toArray, List.set_cons_zero, List.set_cons_succ]
        refine wpAnyH_take (i := 14) (oi := ⟨some 61, _, _, _, _, _⟩) (v := ?_) rfl (by kernel_rfl) (by kernel_rfl) (by kernel_rfl) (fun _ _ _ h => h) (Or.inl ⟨by rfl, ?_⟩) (by assumption) ?_
        case refine_2 => (intro w hSw; skip; go_simp; first | done | with_reducible rfl)
        simp only [Act.put, List.setIfInBounds_toArray, List.set_cons_zero, List.set_cons_succ]
        refine wpAnyH_take (i := 15) (oi := ⟨some 62, _, _, _, _, _⟩) (v := ?_) rfl (by kernel_rfl) (by kernel_rfl) (by kernel_rfl) (fun _ _ _ h => h) (Or.inl ⟨by rfl, ?_⟩) (by assumption) ?_
        case refine_2 => (intro w hSw; skip; go_simp; first | done | with_reducible rfl)
        simp only [Act.put, List.setIfInBounds_toArray, List.set_cons_zero, List.set_cons_succ]
        refine wpAnyH_take (i := 16) (oi := ⟨some 2, _, _, _, _, _⟩) (v := ?_) rfl (by kernel_rfl) (by kernel_rfl) (by kernel_rfl) (fun _ _ _ h => h) (Or.inl ⟨by rfl, ?_⟩) (by assumption) ?_
        case refine_2 => (intro w hSw; skip; go_simp; first | done | with_reducible rfl)
        simp only [Act.put, List.setIfInBounds_toArray, List.set_cons_zero, List.set_cons_succ]
        refine wpAnyH_done (by kernel_rfl) ?_ _
        have hmm := Lib.hid (hm h0)
        clear hm
        go_wp2_with fail
        go_ret
        exact ⟨ret_bool rfl, by repeat (first | exact Below.refl _ _ | refine bl_drewN ?_ _ | refine Below.drew ?_ | refine bl_alloc ?_ _ | refine bl_set ?_ (by simp) _ | refine bl_trans ?_ (by assumption))⟩
  have q5 : (k == 5) = false := by simp [k5]
  rw [show tokB k n s = false by unfold tokB; rw [if_neg k1, if_neg k2, if_neg k3, if_neg k4, if_neg k5]]
  go_enter Tryd.func16, Tryd.ntmps16
  go_wp2_with fail
  go_ret
  exact ⟨rfl, by repeat (first | exact Below.refl _ _ | refine bl_drewN ?_ _ | refine Below.drew ?_ | refine bl_alloc ?_ _ | refine bl_set ?_ (by simp) _ | refine bl_trans ?_ (by assumption))⟩

set_option maxHeartbeats 2000000 in
theorem sTokenOk (k n : Int) (s : ByteArray) (w : World) (hs : s.size ≤ 1048576) :
    Calls Tryd.prog 14 #[.agg #[.int .i64 k, .int .i64 n, .string s]] w fun e w' => e = .returned (.bool (tokB k n s)) ∧ Below w.heap.size w w' := by
  by_cases k1 : k = 1
  · subst k1
    rw [show tokB 1 n s = (inI n 0 2147483647 && s.toList.isEmpty) from rfl]
    cases h : inI n 0 2147483647
    · go_enter Tryd.func14, Tryd.ntmps14
      go_wp2_with fail
      refine (sIn _ _ _ _).mono ?_; rintro e w1 ⟨rfl, rfl⟩
      rw [h]
      go_wp2_with fail
      go_ret
      exact ⟨ret_bool (by rfl), by repeat (first | exact Below.refl _ _ | refine bl_drewN ?_ _ | refine Below.drew ?_ | refine bl_alloc ?_ _ | refine bl_set ?_ (by simp) _ | refine bl_trans ?_ (by assumption))⟩
    · go_enter Tryd.func14, Tryd.ntmps14
      go_wp2_with fail
      refine (sIn _ _ _ _).mono ?_; rintro e w1 ⟨rfl, rfl⟩
      rw [h]
      go_wp2_with fail
      go_ret
      exact ⟨ret_bool (by simp), by repeat (first | exact Below.refl _ _ | refine bl_drewN ?_ _ | refine Below.drew ?_ | refine bl_alloc ?_ _ | refine bl_set ?_ (by simp) _ | refine bl_trans ?_ (by assumption))⟩
  have q1 : (k == 1) = false := by simp [k1]
  by_cases k2 : k = 2
  · subst k2
    rw [show tokB 2 n s = (nameB s && (n == 0)) from rfl]
    generalize hR : (nameB s) = R
    have C := fun w => (sWord s w hs)
    rw [hR] at C
    have CC := Lib.hid C
    clear C hR
    cases R
    · go_enter Tryd.func14, Tryd.ntmps14
      go_wp2_with fail
      refine (CC.out _).mono ?_; rintro e w1 ⟨rfl, rfl⟩
      go_wp2_with fail
      go_ret
      exact ⟨ret_bool (by simp), by repeat (first | exact Below.refl _ _ | refine bl_drewN ?_ _ | refine Below.drew ?_ | refine bl_alloc ?_ _ | refine bl_set ?_ (by simp) _ | refine bl_trans ?_ (by assumption))⟩
    · go_enter Tryd.func14, Tryd.ntmps14
      go_wp2_with fail
      refine (CC.out _).mono ?_; rintro e w1 ⟨rfl, rfl⟩
      go_wp2_with fail
      go_ret
      exact ⟨ret_bool (by simp), by repeat (first | exact Below.refl _ _ | refine bl_drewN ?_ _ | refine Below.drew ?_ | refine bl_alloc ?_ _ | refine bl_set ?_ (by simp) _ | refine bl_trans ?_ (by assumption))⟩
  have q2 : (k == 2) = false := by simp [k2]
  by_cases k3 : k = 3
  · subst k3
    rw [show tokB 3 n s = (plainB s 39 && decide (s.size ≤ 200) && (n == 0)) from rfl]
    generalize hR : (plainB s 39 && decide (s.size ≤ 200)) = R
    have C := fun w => (sPrint s 39 w hs)
    rw [hR] at C
    have CC := Lib.hid C
    clear C hR
    cases R
    · go_enter Tryd.func14, Tryd.ntmps14
      go_wp2_with fail
      refine (CC.out _).mono ?_; rintro e w1 ⟨rfl, rfl⟩
      go_wp2_with fail
      go_ret
      exact ⟨ret_bool (by simp), by repeat (first | exact Below.refl _ _ | refine bl_drewN ?_ _ | refine Below.drew ?_ | refine bl_alloc ?_ _ | refine bl_set ?_ (by simp) _ | refine bl_trans ?_ (by assumption))⟩
    · go_enter Tryd.func14, Tryd.ntmps14
      go_wp2_with fail
      refine (CC.out _).mono ?_; rintro e w1 ⟨rfl, rfl⟩
      go_wp2_with fail
      go_ret
      exact ⟨ret_bool (by simp), by repeat (first | exact Below.refl _ _ | refine bl_drewN ?_ _ | refine Below.drew ?_ | refine bl_alloc ?_ _ | refine bl_set ?_ (by simp) _ | refine bl_trans ?_ (by assumption))⟩
  have q3 : (k == 3) = false := by simp [k3]
  by_cases k4 : k = 4
  · subst k4
    rw [show tokB 4 n s = (plainB s 47 && decide (s.size ≤ 200) && !s.toList.isEmpty && (n == 0)) from rfl]
    generalize hR : (plainB s 47 && decide (s.size ≤ 200)) = R
    have C := fun w => (sPrint s 47 w hs)
    rw [hR] at C
    have CC := Lib.hid C
    clear C hR
    cases R
    · go_enter Tryd.func14, Tryd.ntmps14
      go_wp2_with fail
      refine (CC.out _).mono ?_; rintro e w1 ⟨rfl, rfl⟩
      go_wp2_with fail
      go_ret
      exact ⟨ret_bool (by simp), by repeat (first | exact Below.refl _ _ | refine bl_drewN ?_ _ | refine Below.drew ?_ | refine bl_alloc ?_ _ | refine bl_set ?_ (by simp) _ | refine bl_trans ?_ (by assumption))⟩
    · cases he : s.toList.isEmpty
      · go_enter Tryd.func14, Tryd.ntmps14
        go_wp2_with fail
        refine (CC.out _).mono ?_; rintro e w1 ⟨rfl, rfl⟩
        go_wp2_with fail
        go_ret
        exact ⟨ret_bool (by simp), by repeat (first | exact Below.refl _ _ | refine bl_drewN ?_ _ | refine Below.drew ?_ | refine bl_alloc ?_ _ | refine bl_set ?_ (by simp) _ | refine bl_trans ?_ (by assumption))⟩
      · go_enter Tryd.func14, Tryd.ntmps14
        go_wp2_with fail
        refine (CC.out _).mono ?_; rintro e w1 ⟨rfl, rfl⟩
        go_wp2_with fail
        go_ret
        exact ⟨ret_bool (by simp), by repeat (first | exact Below.refl _ _ | refine bl_drewN ?_ _ | refine Below.drew ?_ | refine bl_alloc ?_ _ | refine bl_set ?_ (by simp) _ | refine bl_trans ?_ (by assumption))⟩
  have q4 : (k == 4) = false := by simp [k4]
  by_cases k5 : k = 5
  · subst k5
    rw [show tokB 5 n s = (mkL s.toList && (n == 0)) from rfl]
    generalize hR : (mkL s.toList) = R
    have C := fun w => (sMark s w)
    rw [hR] at C
    have CC := Lib.hid C
    clear C hR
    cases R
    · go_enter Tryd.func14, Tryd.ntmps14
      go_wp2_with fail
      refine (CC.out _).mono ?_; rintro e w1 ⟨rfl, rfl⟩
      go_wp2_with fail
      go_ret
      exact ⟨ret_bool (by simp), by repeat (first | exact Below.refl _ _ | refine bl_drewN ?_ _ | refine Below.drew ?_ | refine bl_alloc ?_ _ | refine bl_set ?_ (by simp) _ | refine bl_trans ?_ (by assumption))⟩
    · go_enter Tryd.func14, Tryd.ntmps14
      go_wp2_with fail
      refine (CC.out _).mono ?_; rintro e w1 ⟨rfl, rfl⟩
      go_wp2_with fail
      go_ret
      exact ⟨ret_bool (by simp), by repeat (first | exact Below.refl _ _ | refine bl_drewN ?_ _ | refine Below.drew ?_ | refine bl_alloc ?_ _ | refine bl_set ?_ (by simp) _ | refine bl_trans ?_ (by assumption))⟩
  have q5 : (k == 5) = false := by simp [k5]
  rw [show tokB k n s = false by unfold tokB; rw [if_neg k1, if_neg k2, if_neg k3, if_neg k4, if_neg k5]]
  go_enter Tryd.func14, Tryd.ntmps14
  go_wp2_with fail
  go_ret
  exact ⟨rfl, by repeat (first | exact Below.refl _ _ | refine bl_drewN ?_ _ | refine Below.drew ?_ | refine bl_alloc ?_ _ | refine bl_set ?_ (by simp) _ | refine bl_trans ?_ (by assumption))⟩

end Go.Proofs.YtjpefadalinhoaaDoor
