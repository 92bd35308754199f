import Derived.Test.YtemlnpncljomgaaGreatDoorExprN
import Derived.Deep.RegionHeld3
namespace Go.Proofs.YtemlnpncljomgaaGreatDoor
open Go.RowKit

set_option maxHeartbeats 2000000 in
theorem sHereE_1 (zn : Int) (zs : ByteArray) (A : Option Addr) (len c : Nat) (w : World) (hz : zs.size ≤ 1048576) :
    Calls Tryz.prog 44 #[.agg #[.int .i64 1, .int .i64 zn, .string zs, .slice A len c]] w fun e w' => e = .returned (.bool (hereE (1, zn, zs) len)) ∧ Below w.heap.size w w' := by
  have _ := hz
  have B := Blk.new w 29 #[.int .i64 1, .int .i64 zn, .string zs, .slice A len c]
  have L0 := bl_alloc (Below.refl w.heap.size w) (.cells #[.int .i64 1, .int .i64 zn, .string zs, .slice A len c] 29)
  have c1 := fun w => sIn zn 0 2147483647 w
  obtain ⟨q1, hb1⟩ : ∃ q, inI zn 0 2147483647 = q := ⟨_, rfl⟩
  rw [hb1] at c1
  have C1 := Lib.hid c1
  clear c1
  go_enter Tryz.func44, Tryz.ntmps44
  go_wp2_with fail
  go_wp2_with fail
  refine (C1.out _).mono ?_; rintro e w1 ⟨rfl, rfl⟩
  have L1 := L0
  have B1 := B
  cases q1
  · skip
    have HV := Lib.hid (show hereE (1, zn, zs) len = false from by rw [hereE_one, kindE_1, hb1]; simp)
    go_wp2_with fail
    go_ret
    exact ⟨ret_bool HV.out.symm, L1⟩
  · skip
    cases he : zs.toList.isEmpty
    · skip
      have HV := Lib.hid (show hereE (1, zn, zs) len = false from by rw [hereE_one, kindE_1, hb1, he]; simp)
      go_wp2_with fail
      go_ret
      exact ⟨by first | exact ret_bool HV.out.symm | exact ret_bool ((decide_eq_false (by omega)).trans HV.out.symm), L1⟩
    · skip
      by_cases h0 : len = 0
      · have g0 : ((len : Int) == 0) = true := by simp [h0]
        have h0' : (len == 0) = true := by simp [h0]
        have H0 := Lib.hid h0
        clear h0
        have HV := Lib.hid (show hereE (1, zn, zs) len = true from by rw [hereE_one, kindE_1, hb1, he, h0']; rfl)
        go_wp2_with fail
        go_ret
        exact ⟨ret_bool HV.out.symm, L1⟩
      · have g0 : ((len : Int) == 0) = false := beq_eq_false_iff_ne.2 (by omega)
        have h0' : (len == 0) = false := by simp [h0]
        have H0 := Lib.hid h0
        clear h0
        have HV := Lib.hid (show hereE (1, zn, zs) len = false from by rw [hereE_one, kindE_1, hb1, he, h0']; simp)
        go_wp2_with fail
        go_ret
        exact ⟨by first | exact ret_bool HV.out.symm | exact ret_bool ((decide_eq_false (by omega)).trans HV.out.symm), L1⟩

set_option maxHeartbeats 2000000 in
theorem sHereE_2 (zs : ByteArray) (A : Option Addr) (len c : Nat) (w : World) (hz : zs.size ≤ 1048576) :
    Calls Tryz.prog 44 #[.agg #[.int .i64 2, .int .i64 0, .string zs, .slice A len c]] w fun e w' => e = .returned (.bool (hereE (2, 0, zs) len)) ∧ Below w.heap.size w w' := by
  have _ := hz
  have B := Blk.new w 29 #[.int .i64 2, .int .i64 0, .string zs, .slice A len c]
  have L0 := bl_alloc (Below.refl w.heap.size w) (.cells #[.int .i64 2, .int .i64 0, .string zs, .slice A len c] 29)
  have c1 := fun w => sPrint zs 39 w (by omega)
  obtain ⟨q1, hb1⟩ : ∃ q, (plainB zs 39 && decide (zs.size ≤ 200)) = q := ⟨_, rfl⟩
  rw [hb1] at c1
  have C1 := Lib.hid c1
  clear c1
  go_enter Tryz.func44, Tryz.ntmps44
  go_wp2_with fail
  go_wp2_with fail
  refine (C1.out _).mono ?_; rintro e w1 ⟨rfl, rfl⟩
  have L1 := L0
  have B1 := B
  cases q1
  · skip
    have HV := Lib.hid (show hereE (2, 0, zs) len = false from by rw [hereE_zero (by decide), kindE_2, hb1]; simp)
    go_wp2_with fail
    go_ret
    exact ⟨ret_bool HV.out.symm, L1⟩
  · skip
    by_cases h0 : len = 0
    · have g0 : ((len : Int) == 0) = true := by simp [h0]
      have h0' : (len == 0) = true := by simp [h0]
      have H0 := Lib.hid h0
      clear h0
      have HV := Lib.hid (show hereE (2, 0, zs) len = true from by rw [hereE_zero (by decide), kindE_2, hb1, h0']; rfl)
      go_wp2_with fail
      go_ret
      exact ⟨ret_bool HV.out.symm, L1⟩
    · have g0 : ((len : Int) == 0) = false := beq_eq_false_iff_ne.2 (by omega)
      have h0' : (len == 0) = false := by simp [h0]
      have H0 := Lib.hid h0
      clear h0
      have HV := Lib.hid (show hereE (2, 0, zs) len = false from by rw [hereE_zero (by decide), kindE_2, hb1, h0']; simp)
      go_wp2_with fail
      go_ret
      exact ⟨by first | exact ret_bool HV.out.symm | exact ret_bool ((decide_eq_false (by omega)).trans HV.out.symm), L1⟩

set_option maxHeartbeats 2000000 in
theorem sHereE_3 (zs : ByteArray) (A : Option Addr) (len c : Nat) (w : World) (hz : zs.size ≤ 1048576) :
    Calls Tryz.prog 44 #[.agg #[.int .i64 3, .int .i64 0, .string zs, .slice A len c]] w fun e w' => e = .returned (.bool (hereE (3, 0, zs) len)) ∧ Below w.heap.size w w' := by
  have _ := hz
  have B := Blk.new w 29 #[.int .i64 3, .int .i64 0, .string zs, .slice A len c]
  have L0 := bl_alloc (Below.refl w.heap.size w) (.cells #[.int .i64 3, .int .i64 0, .string zs, .slice A len c] 29)
  have c1 := fun w => sNameOk zs w (by omega)
  obtain ⟨q1, hb1⟩ : ∃ q, nameOkB zs = q := ⟨_, rfl⟩
  rw [hb1] at c1
  have C1 := Lib.hid c1
  clear c1
  go_enter Tryz.func44, Tryz.ntmps44
  go_wp2_with fail
  go_wp2_with fail
  refine (C1.out _).mono ?_; rintro e w1 ⟨rfl, b1⟩
  have L1 := bl_trans L0 b1
  have B1 := B.keep b1
  have p1 := B1.cell
  cases q1
  · skip
    have HV := Lib.hid (show hereE (3, 0, zs) len = false from by rw [hereE_zero (by decide), kindE_3, hb1]; simp)
    go_wp2_with fail
    go_ret
    exact ⟨ret_bool HV.out.symm, L1⟩
  · skip
    by_cases h0 : len = 0
    · have g0 : ((len : Int) == 0) = true := by simp [h0]
      have h0' : (len == 0) = true := by simp [h0]
      have H0 := Lib.hid h0
      clear h0
      have HV := Lib.hid (show hereE (3, 0, zs) len = true from by rw [hereE_zero (by decide), kindE_3, hb1, h0']; rfl)
      go_wp2_with fail
      go_ret
      exact ⟨ret_bool HV.out.symm, L1⟩
    · have g0 : ((len : Int) == 0) = false := beq_eq_false_iff_ne.2 (by omega)
      have h0' : (len == 0) = false := by simp [h0]
      have H0 := Lib.hid h0
      clear h0
      have HV := Lib.hid (show hereE (3, 0, zs) len = false from by rw [hereE_zero (by decide), kindE_3, hb1, h0']; simp)
      go_wp2_with fail
      go_ret
      exact ⟨by first | exact ret_bool HV.out.symm | exact ret_bool ((decide_eq_false (by omega)).trans HV.out.symm), L1⟩

set_option maxHeartbeats 2000000 in
theorem sHereE_4 (zs : ByteArray) (A : Option Addr) (len c : Nat) (w : World) (hz : zs.size ≤ 1048576) :
    Calls Tryz.prog 44 #[.agg #[.int .i64 4, .int .i64 0, .string zs, .slice A len c]] w fun e w' => e = .returned (.bool (hereE (4, 0, zs) len)) ∧ Below w.heap.size w w' := by
  have _ := hz
  have B := Blk.new w 29 #[.int .i64 4, .int .i64 0, .string zs, .slice A len c]
  have L0 := bl_alloc (Below.refl w.heap.size w) (.cells #[.int .i64 4, .int .i64 0, .string zs, .slice A len c] 29)
  have c1 := fun w => sNameOk zs w (by omega)
  obtain ⟨q1, hb1⟩ : ∃ q, nameOkB zs = q := ⟨_, rfl⟩
  rw [hb1] at c1
  have C1 := Lib.hid c1
  clear c1
  go_enter Tryz.func44, Tryz.ntmps44
  go_wp2_with fail
  go_wp2_with fail
  refine (C1.out _).mono ?_; rintro e w1 ⟨rfl, b1⟩
  have L1 := bl_trans L0 b1
  have B1 := B.keep b1
  have p1 := B1.cell
  cases q1
  · skip
    have HV := Lib.hid (show hereE (4, 0, zs) len = false from by rw [hereE_zero (by decide), kindE_4, hb1]; simp)
    go_wp2_with fail
    go_ret
    exact ⟨ret_bool HV.out.symm, L1⟩
  · skip
    by_cases h0 : len = 1
    · have g0 : ((len : Int) == 1) = true := by simp [h0]
      have h0' : (len == 1) = true := by simp [h0]
      have H0 := Lib.hid h0
      clear h0
      have HV := Lib.hid (show hereE (4, 0, zs) len = true from by rw [hereE_zero (by decide), kindE_4, hb1, h0']; rfl)
      go_wp2_with fail
      go_ret
      exact ⟨ret_bool HV.out.symm, L1⟩
    · have g0 : ((len : Int) == 1) = false := beq_eq_false_iff_ne.2 (by omega)
      have h0' : (len == 1) = false := by simp [h0]
      have H0 := Lib.hid h0
      clear h0
      have HV := Lib.hid (show hereE (4, 0, zs) len = false from by rw [hereE_zero (by decide), kindE_4, hb1, h0']; simp)
      go_wp2_with fail
      go_ret
      exact ⟨by first | exact ret_bool HV.out.symm | exact ret_bool ((decide_eq_false (by omega)).trans HV.out.symm), L1⟩

set_option maxHeartbeats 2000000 in
theorem sHereE_5 (zs : ByteArray) (A : Option Addr) (len c : Nat) (w : World) (hz : zs.size ≤ 1048576) :
    Calls Tryz.prog 44 #[.agg #[.int .i64 5, .int .i64 0, .string zs, .slice A len c]] w fun e w' => e = .returned (.bool (hereE (5, 0, zs) len)) ∧ Below w.heap.size w w' := by
  have _ := hz
  have B := Blk.new w 29 #[.int .i64 5, .int .i64 0, .string zs, .slice A len c]
  have L0 := bl_alloc (Below.refl w.heap.size w) (.cells #[.int .i64 5, .int .i64 0, .string zs, .slice A len c] 29)
  cases he : zs.toList.isEmpty
  · skip
    have HV := Lib.hid (show hereE (5, 0, zs) len = false from by rw [hereE_zero (by decide), kindE_5, he]; simp)
    go_enter Tryz.func44, Tryz.ntmps44
    go_wp2_with fail
    go_wp2_with fail
    go_ret
    exact ⟨by first | exact ret_bool HV.out.symm | exact ret_bool ((decide_eq_false (by omega)).trans HV.out.symm), L0⟩
  · skip
    by_cases h0 : len = 1
    · have g0 : ((len : Int) == 1) = true := by simp [h0]
      have h0' : (len == 1) = true := by simp [h0]
      have H0 := Lib.hid h0
      clear h0
      have HV := Lib.hid (show hereE (5, 0, zs) len = true from by rw [hereE_zero (by decide), kindE_5, he, h0']; rfl)
      go_enter Tryz.func44, Tryz.ntmps44
      go_wp2_with fail
      go_wp2_with fail
      go_ret
      exact ⟨ret_bool HV.out.symm, L0⟩
    · have g0 : ((len : Int) == 1) = false := beq_eq_false_iff_ne.2 (by omega)
      have h0' : (len == 1) = false := by simp [h0]
      have H0 := Lib.hid h0
      clear h0
      have HV := Lib.hid (show hereE (5, 0, zs) len = false from by rw [hereE_zero (by decide), kindE_5, he, h0']; simp)
      go_enter Tryz.func44, Tryz.ntmps44
      go_wp2_with fail
      go_wp2_with fail
      go_ret
      exact ⟨by first | exact ret_bool HV.out.symm | exact ret_bool ((decide_eq_false (by omega)).trans HV.out.symm), L0⟩

set_option maxHeartbeats 2000000 in
theorem sHereE_6 (zs : ByteArray) (A : Option Addr) (len c : Nat) (w : World) (hz : zs.size ≤ 1048576) :
    Calls Tryz.prog 44 #[.agg #[.int .i64 6, .int .i64 0, .string zs, .slice A len c]] w fun e w' => e = .returned (.bool (hereE (6, 0, zs) len)) ∧ Below w.heap.size w w' := by
  have _ := hz
  have B := Blk.new w 29 #[.int .i64 6, .int .i64 0, .string zs, .slice A len c]
  have L0 := bl_alloc (Below.refl w.heap.size w) (.cells #[.int .i64 6, .int .i64 0, .string zs, .slice A len c] 29)
  have c1 := fun g w hb => sHas g 14 exOps zs w hb rfl (by omega)
  obtain ⟨q1, hb1⟩ : ∃ q, hasB exOps zs = q := ⟨_, rfl⟩
  rw [hb1] at c1
  have C1 := Lib.hid c1
  clear c1
  cases q1
  · skip
    have HV := Lib.hid (show hereE (6, 0, zs) len = false from by rw [hereE_zero (by decide), kindE_6, hb1]; simp)
    go_enter Tryz.func44, Tryz.ntmps44
    go_wp2_with fail
    refine wp_region_held_drew (S := (fun x => Blk x w.heap.size 29 #[.int .i64 6, .int .i64 0, .string zs, .slice A len c] ∧ Below w.heap.size w x)) (by kernel_rfl) ?_ (fun hHeld => ?_)
    · exact ⟨B.drew, L0.drew⟩
    refine wpAnyH_take (i := 1) (oi := ⟨some 62, _, _, _, _, _⟩) (v := ?_) rfl (by kernel_rfl) (by kernel_rfl) (by kernel_rfl) (fun _ _ _ h => h) (Or.inl ⟨by rfl, ?_⟩) (by assumption) ?_
    case refine_2 => (intro w hSw; have p := hSw.1.cell; go_simp; first | done | with_reducible rfl)
    simp only [Act.put, qA, qB, qC]
    refine wpAnyH_take (i := 2) (oi := ⟨some 63, _, _, _, _, _⟩) (v := ?_) rfl (by kernel_rfl) (by kernel_rfl) (by kernel_rfl) (fun _ _ _ h => h) (Or.inl ⟨by rfl, ?_⟩) (by assumption) ?_
    case refine_2 => (intro w hSw; have p := hSw.1.cell; go_simp; first | done | with_reducible rfl)
    simp only [Act.put, qA, qB, qC]
    refine wpAnyH_ready (rs := [0]) (by kernel_rfl) (by simp) ?_
    refine AllReadyH.cons (o := ⟨some 61, _, _, _, _, _⟩) rfl (fun K hK => ?_) AllReadyH.nil
    go_simp
    refine (sOpsL _).mono ?_; rintro e u1 ⟨⟨g1, rfl, hg1⟩, bu1⟩
    go_wp2_with fail
    refine hK.out _ _ (⟨hHeld.1.keep bu1, bl_trans hHeld.2 bu1⟩) (fun hHeld => ?_)
    clear hK K
    try simp only [Act.put, qA, qB, qC]
    refine wpAnyH_ready (rs := [3]) (by kernel_rfl) (by simp) ?_
    refine AllReadyH.cons (o := ⟨some 64, _, _, _, _, _⟩) rfl (fun K hK => ?_) AllReadyH.nil
    go_simp
    refine (C1.out g1 _ hg1).mono ?_; rintro e u2 ⟨rfl, rfl⟩
    go_wp2_with fail
    refine hK.out _ _ (hHeld) (fun hHeld => ?_)
    clear hK K
    try simp only [Act.put, qA, qB, qC]
    refine wpAnyH_take (i := 4) (oi := ⟨some 65, _, _, _, _, _⟩) (v := ?_) rfl (by kernel_rfl) (by kernel_rfl) (by kernel_rfl) (fun _ _ _ h => h) (Or.inl ⟨by rfl, ?_⟩) (by assumption) ?_
    case refine_2 => (intro w hSw; skip; go_simp; first | done | with_reducible rfl)
    simp only [Act.put, qA, qB, qC]
    refine wpAnyH_take (i := 5) (oi := ⟨some 66, _, _, _, _, _⟩) (v := undef) rfl (by kernel_rfl) (by kernel_rfl) (by kernel_rfl) (fun _ _ _ h => h) (Or.inr ⟨by rfl, rfl⟩) (by assumption) ?_
    simp only [Act.put, qA, qB, qC]
    refine wpAnyH_take (i := 6) (oi := ⟨some 67, _, _, _, _, _⟩) (v := undef) rfl (by kernel_rfl) (by kernel_rfl) (by kernel_rfl) (fun _ _ _ h => h) (Or.inr ⟨by rfl, rfl⟩) (by assumption) ?_
    simp only [Act.put, qA, qB, qC]
    refine wpAnyH_take (i := 7) (oi := ⟨some 68, _, _, _, _, _⟩) (v := ?_) rfl (by kernel_rfl) (by kernel_rfl) (by kernel_rfl) (fun _ _ _ h => h) (Or.inl ⟨by rfl, ?_⟩) (by assumption) ?_
    case refine_2 => (intro w hSw; skip; go_simp; first | done | with_reducible rfl)
    simp only [Act.put, qA, qB, qC]
    refine wpAnyH_take (i := 8) (oi := ⟨some 2, _, _, _, _, _⟩) (v := ?_) rfl (by kernel_rfl) (by kernel_rfl) (by kernel_rfl) (fun _ _ _ h => h) (Or.inl ⟨by rfl, ?_⟩) (by assumption) ?_
    case refine_2 => (intro w hSw; skip; go_simp; first | done | with_reducible rfl)
    simp only [Act.put, qA, qB, qC]
    refine wpAnyH_done (by kernel_rfl) ?_ _
    go_wp2_with fail
    go_ret
    exact ⟨ret_bool HV.out.symm, hHeld.2⟩
  · skip
    by_cases h0 : len = 2
    · have g0 : ((len : Int) == 2) = true := by simp [h0]
      have h0' : (len == 2) = true := by simp [h0]
      have H0 := Lib.hid h0
      clear h0
      have HV := Lib.hid (show hereE (6, 0, zs) len = true from by rw [hereE_zero (by decide), kindE_6, hb1, h0']; rfl)
      go_enter Tryz.func44, Tryz.ntmps44
      go_wp2_with fail
      refine wp_region_held_drew (S := (fun x => Blk x w.heap.size 29 #[.int .i64 6, .int .i64 0, .string zs, .slice A len c] ∧ Below w.heap.size w x)) (by kernel_rfl) ?_ (fun hHeld => ?_)
      · exact ⟨B.drew, L0.drew⟩
      refine wpAnyH_take (i := 1) (oi := ⟨some 62, _, _, _, _, _⟩) (v := ?_) rfl (by kernel_rfl) (by kernel_rfl) (by kernel_rfl) (fun _ _ _ h => h) (Or.inl ⟨by rfl, ?_⟩) (by assumption) ?_
      case refine_2 => (intro w hSw; have p := hSw.1.cell; go_simp; first | done | with_reducible rfl)
      simp only [Act.put, qA, qB, qC]
      refine wpAnyH_take (i := 2) (oi := ⟨some 63, _, _, _, _, _⟩) (v := ?_) rfl (by kernel_rfl) (by kernel_rfl) (by kernel_rfl) (fun _ _ _ h => h) (Or.inl ⟨by rfl, ?_⟩) (by assumption) ?_
      case refine_2 => (intro w hSw; have p := hSw.1.cell; go_simp; first | done | with_reducible rfl)
      simp only [Act.put, qA, qB, qC]
      refine wpAnyH_ready (rs := [0]) (by kernel_rfl) (by simp) ?_
      refine AllReadyH.cons (o := ⟨some 61, _, _, _, _, _⟩) rfl (fun K hK => ?_) AllReadyH.nil
      go_simp
      refine (sOpsL _).mono ?_; rintro e u1 ⟨⟨g1, rfl, hg1⟩, bu1⟩
      go_wp2_with fail
      refine hK.out _ _ (⟨hHeld.1.keep bu1, bl_trans hHeld.2 bu1⟩) (fun hHeld => ?_)
      clear hK K
      try simp only [Act.put, qA, qB, qC]
      refine wpAnyH_ready (rs := [3]) (by kernel_rfl) (by simp) ?_
      refine AllReadyH.cons (o := ⟨some 64, _, _, _, _, _⟩) rfl (fun K hK => ?_) AllReadyH.nil
      go_simp
      refine (C1.out g1 _ hg1).mono ?_; rintro e u2 ⟨rfl, rfl⟩
      go_wp2_with fail
      refine hK.out _ _ (hHeld) (fun hHeld => ?_)
      clear hK K
      try simp only [Act.put, qA, qB, qC]
      refine wpAnyH_take (i := 4) (oi := ⟨some 65, _, _, _, _, _⟩) (v := ?_) rfl (by kernel_rfl) (by kernel_rfl) (by kernel_rfl) (fun _ _ _ h => h) (Or.inl ⟨by rfl, ?_⟩) (by assumption) ?_
      case refine_2 => (intro w hSw; skip; go_simp; first | done | with_reducible rfl)
      simp only [Act.put, qA, qB, qC]
      refine wpAnyH_take (i := 5) (oi := ⟨some 66, _, _, _, _, _⟩) (v := ?_) rfl (by kernel_rfl) (by kernel_rfl) (by kernel_rfl) (fun _ _ _ h => h) (Or.inl ⟨by rfl, ?_⟩) (by assumption) ?_
      case refine_2 => (intro w hSw; skip; go_simp; first | done | with_reducible rfl)
      simp only [Act.put, qA, qB, qC]
      refine wpAnyH_take (i := 6) (oi := ⟨some 67, _, _, _, _, _⟩) (v := ?_) rfl (by kernel_rfl) (by kernel_rfl) (by kernel_rfl) (fun _ _ _ h => h) (Or.inl ⟨by rfl, ?_⟩) (by assumption) ?_
      case refine_2 => (intro w hSw; skip; go_simp; first | done | with_reducible rfl)
      simp only [Act.put, qA, qB, qC]
      refine wpAnyH_take (i := 7) (oi := ⟨some 68, _, _, _, _, _⟩) (v := ?_) rfl (by kernel_rfl) (by kernel_rfl) (by kernel_rfl) (fun _ _ _ h => h) (Or.inl ⟨by rfl, ?_⟩) (by assumption) ?_
      case refine_2 => (intro w hSw; skip; go_simp; first | done | with_reducible rfl)
      simp only [Act.put, qA, qB, qC]
      refine wpAnyH_take (i := 8) (oi := ⟨some 2, _, _, _, _, _⟩) (v := ?_) rfl (by kernel_rfl) (by kernel_rfl) (by kernel_rfl) (fun _ _ _ h => h) (Or.inl ⟨by rfl, ?_⟩) (by assumption) ?_
      case refine_2 => (intro w hSw; skip; go_simp; first | done | with_reducible rfl)
      simp only [Act.put, qA, qB, qC]
      refine wpAnyH_done (by kernel_rfl) ?_ _
      go_wp2_with fail
      go_ret
      exact ⟨ret_bool HV.out.symm, hHeld.2⟩
    · have g0 : ((len : Int) == 2) = false := beq_eq_false_iff_ne.2 (by omega)
      have h0' : (len == 2) = false := by simp [h0]
      have H0 := Lib.hid h0
      clear h0
      have HV := Lib.hid (show hereE (6, 0, zs) len = false from by rw [hereE_zero (by decide), kindE_6, hb1, h0']; simp)
      go_enter Tryz.func44, Tryz.ntmps44
      go_wp2_with fail
      refine wp_region_held_drew (S := (fun x => Blk x w.heap.size 29 #[.int .i64 6, .int .i64 0, .string zs, .slice A len c] ∧ Below w.heap.size w x)) (by kernel_rfl) ?_ (fun hHeld => ?_)
      · exact ⟨B.drew, L0.drew⟩
      refine wpAnyH_take (i := 1) (oi := ⟨some 62, _, _, _, _, _⟩) (v := ?_) rfl (by kernel_rfl) (by kernel_rfl) (by kernel_rfl) (fun _ _ _ h => h) (Or.inl ⟨by rfl, ?_⟩) (by assumption) ?_
      case refine_2 => (intro w hSw; have p := hSw.1.cell; go_simp; first | done | with_reducible rfl)
      simp only [Act.put, qA, qB, qC]
      refine wpAnyH_take (i := 2) (oi := ⟨some 63, _, _, _, _, _⟩) (v := ?_) rfl (by kernel_rfl) (by kernel_rfl) (by kernel_rfl) (fun _ _ _ h => h) (Or.inl ⟨by rfl, ?_⟩) (by assumption) ?_
      case refine_2 => (intro w hSw; have p := hSw.1.cell; go_simp; first | done | with_reducible rfl)
      simp only [Act.put, qA, qB, qC]
      refine wpAnyH_ready (rs := [0]) (by kernel_rfl) (by simp) ?_
      refine AllReadyH.cons (o := ⟨some 61, _, _, _, _, _⟩) rfl (fun K hK => ?_) AllReadyH.nil
      go_simp
      refine (sOpsL _).mono ?_; rintro e u1 ⟨⟨g1, rfl, hg1⟩, bu1⟩
      go_wp2_with fail
      refine hK.out _ _ (⟨hHeld.1.keep bu1, bl_trans hHeld.2 bu1⟩) (fun hHeld => ?_)
      clear hK K
      try simp only [Act.put, qA, qB, qC]
      refine wpAnyH_ready (rs := [3]) (by kernel_rfl) (by simp) ?_
      refine AllReadyH.cons (o := ⟨some 64, _, _, _, _, _⟩) rfl (fun K hK => ?_) AllReadyH.nil
      go_simp
      refine (C1.out g1 _ hg1).mono ?_; rintro e u2 ⟨rfl, rfl⟩
      go_wp2_with fail
      refine hK.out _ _ (hHeld) (fun hHeld => ?_)
      clear hK K
      try simp only [Act.put, qA, qB, qC]
      refine wpAnyH_take (i := 4) (oi := ⟨some 65, _, _, _, _, _⟩) (v := ?_) rfl (by kernel_rfl) (by kernel_rfl) (by kernel_rfl) (fun _ _ _ h => h) (Or.inl ⟨by rfl, ?_⟩) (by assumption) ?_
      case refine_2 => (intro w hSw; skip; go_simp; first | done | with_reducible rfl)
      simp only [Act.put, qA, qB, qC]
      refine wpAnyH_take (i := 5) (oi := ⟨some 66, _, _, _, _, _⟩) (v := ?_) rfl (by kernel_rfl) (by kernel_rfl) (by kernel_rfl) (fun _ _ _ h => h) (Or.inl ⟨by rfl, ?_⟩) (by assumption) ?_
      case refine_2 => (intro w hSw; skip; go_simp; first | done | with_reducible rfl)
      simp only [Act.put, qA, qB, qC]
      refine wpAnyH_take (i := 6) (oi := ⟨some 67, _, _, _, _, _⟩) (v := ?_) rfl (by kernel_rfl) (by kernel_rfl) (by kernel_rfl) (fun _ _ _ h => h) (Or.inl ⟨by rfl, ?_⟩) (by assumption) ?_
      case refine_2 => (intro w hSw; skip; go_simp; first | done | with_reducible rfl)
      simp only [Act.put, qA, qB, qC]
      refine wpAnyH_take (i := 7) (oi := ⟨some 68, _, _, _, _, _⟩) (v := ?_) rfl (by kernel_rfl) (by kernel_rfl) (by kernel_rfl) (fun _ _ _ h => h) (Or.inl ⟨by rfl, ?_⟩) (by assumption) ?_
      case refine_2 => (intro w hSw; skip; go_simp; first | done | with_reducible rfl)
      simp only [Act.put, qA, qB, qC]
      refine wpAnyH_take (i := 8) (oi := ⟨some 2, _, _, _, _, _⟩) (v := ?_) rfl (by kernel_rfl) (by kernel_rfl) (by kernel_rfl) (fun _ _ _ h => h) (Or.inl ⟨by rfl, ?_⟩) (by assumption) ?_
      case refine_2 => (intro w hSw; skip; go_simp; first | done | with_reducible rfl)
      simp only [Act.put, qA, qB, qC]
      refine wpAnyH_done (by kernel_rfl) ?_ _
      go_wp2_with fail
      go_ret
      exact ⟨ret_bool HV.out.symm, hHeld.2⟩

set_option maxHeartbeats 2000000 in
theorem sHereE_7 (zs : ByteArray) (A : Option Addr) (len c : Nat) (w : World) (hz : zs.size ≤ 1048576) :
    Calls Tryz.prog 44 #[.agg #[.int .i64 7, .int .i64 0, .string zs, .slice A len c]] w fun e w' => e = .returned (.bool (hereE (7, 0, zs) len)) ∧ Below w.heap.size w w' := by
  have _ := hz
  have B := Blk.new w 29 #[.int .i64 7, .int .i64 0, .string zs, .slice A len c]
  have L0 := bl_alloc (Below.refl w.heap.size w) (.cells #[.int .i64 7, .int .i64 0, .string zs, .slice A len c] 29)
  cases he : zs.toList.isEmpty
  · skip
    have HV := Lib.hid (show hereE (7, 0, zs) len = false from by rw [hereE_zero (by decide), kindE_7, he]; simp)
    go_enter Tryz.func44, Tryz.ntmps44
    go_wp2_with fail
    go_wp2_with fail
    go_ret
    exact ⟨by first | exact ret_bool HV.out.symm | exact ret_bool ((decide_eq_false (by omega)).trans HV.out.symm), L0⟩
  · skip
    by_cases h0 : len = 1
    · have g0 : ((len : Int) == 1) = true := by simp [h0]
      have h0' : (len == 1) = true := by simp [h0]
      have H0 := Lib.hid h0
      clear h0
      have HV := Lib.hid (show hereE (7, 0, zs) len = true from by rw [hereE_zero (by decide), kindE_7, he, h0']; rfl)
      go_enter Tryz.func44, Tryz.ntmps44
      go_wp2_with fail
      go_wp2_with fail
      go_ret
      exact ⟨ret_bool HV.out.symm, L0⟩
    · have g0 : ((len : Int) == 1) = false := beq_eq_false_iff_ne.2 (by omega)
      have h0' : (len == 1) = false := by simp [h0]
      have H0 := Lib.hid h0
      clear h0
      have HV := Lib.hid (show hereE (7, 0, zs) len = false from by rw [hereE_zero (by decide), kindE_7, he, h0']; simp)
      go_enter Tryz.func44, Tryz.ntmps44
      go_wp2_with fail
      go_wp2_with fail
      go_ret
      exact ⟨by first | exact ret_bool HV.out.symm | exact ret_bool ((decide_eq_false (by omega)).trans HV.out.symm), L0⟩

set_option maxHeartbeats 2000000 in
theorem sHereE_8 (zs : ByteArray) (A : Option Addr) (len c : Nat) (w : World) (hz : zs.size ≤ 1048576) :
    Calls Tryz.prog 44 #[.agg #[.int .i64 8, .int .i64 0, .string zs, .slice A len c]] w fun e w' => e = .returned (.bool (hereE (8, 0, zs) len)) ∧ Below w.heap.size w w' := by
  have _ := hz
  have B := Blk.new w 29 #[.int .i64 8, .int .i64 0, .string zs, .slice A len c]
  have L0 := bl_alloc (Below.refl w.heap.size w) (.cells #[.int .i64 8, .int .i64 0, .string zs, .slice A len c] 29)
  cases he : zs.toList.isEmpty
  · skip
    have HV := Lib.hid (show hereE (8, 0, zs) len = false from by rw [hereE_zero (by decide), kindE_8, he]; simp)
    go_enter Tryz.func44, Tryz.ntmps44
    go_wp2_with fail
    go_wp2_with fail
    go_ret
    exact ⟨by first | exact ret_bool HV.out.symm | exact ret_bool ((decide_eq_false (by omega)).trans HV.out.symm), L0⟩
  · skip
    by_cases h0 : len = 1
    · have g0 : ((len : Int) == 1) = true := by simp [h0]
      have h0' : (len == 1) = true := by simp [h0]
      have H0 := Lib.hid h0
      clear h0
      have HV := Lib.hid (show hereE (8, 0, zs) len = true from by rw [hereE_zero (by decide), kindE_8, he, h0']; rfl)
      go_enter Tryz.func44, Tryz.ntmps44
      go_wp2_with fail
      go_wp2_with fail
      go_ret
      exact ⟨ret_bool HV.out.symm, L0⟩
    · have g0 : ((len : Int) == 1) = false := beq_eq_false_iff_ne.2 (by omega)
      have h0' : (len == 1) = false := by simp [h0]
      have H0 := Lib.hid h0
      clear h0
      have HV := Lib.hid (show hereE (8, 0, zs) len = false from by rw [hereE_zero (by decide), kindE_8, he, h0']; simp)
      go_enter Tryz.func44, Tryz.ntmps44
      go_wp2_with fail
      go_wp2_with fail
      go_ret
      exact ⟨by first | exact ret_bool HV.out.symm | exact ret_bool ((decide_eq_false (by omega)).trans HV.out.symm), L0⟩

set_option maxHeartbeats 2000000 in
theorem sHereE_9 (zs : ByteArray) (A : Option Addr) (len c : Nat) (w : World) (hz : zs.size ≤ 1048576) :
    Calls Tryz.prog 44 #[.agg #[.int .i64 9, .int .i64 0, .string zs, .slice A len c]] w fun e w' => e = .returned (.bool (hereE (9, 0, zs) len)) ∧ Below w.heap.size w w' := by
  have _ := hz
  have B := Blk.new w 29 #[.int .i64 9, .int .i64 0, .string zs, .slice A len c]
  have L0 := bl_alloc (Below.refl w.heap.size w) (.cells #[.int .i64 9, .int .i64 0, .string zs, .slice A len c] 29)
  have c1 := fun w => sNameOk zs w (by omega)
  obtain ⟨q1, hb1⟩ : ∃ q, nameOkB zs = q := ⟨_, rfl⟩
  rw [hb1] at c1
  have C1 := Lib.hid c1
  clear c1
  go_enter Tryz.func44, Tryz.ntmps44
  go_wp2_with fail
  go_wp2_with fail
  refine (C1.out _).mono ?_; rintro e w1 ⟨rfl, b1⟩
  have L1 := bl_trans L0 b1
  have B1 := B.keep b1
  have p1 := B1.cell
  cases q1
  · skip
    have HV := Lib.hid (show hereE (9, 0, zs) len = false from by rw [hereE_zero (by decide), kindE_9, hb1]; simp)
    go_wp2_with fail
    go_ret
    exact ⟨ret_bool HV.out.symm, L1⟩
  · skip
    by_cases h0 : len = 1
    · have g0 : ((len : Int) == 1) = true := by simp [h0]
      have h0' : (len == 1) = true := by simp [h0]
      have H0 := Lib.hid h0
      clear h0
      have HV := Lib.hid (show hereE (9, 0, zs) len = true from by rw [hereE_zero (by decide), kindE_9, hb1, h0']; rfl)
      go_wp2_with fail
      go_ret
      exact ⟨ret_bool HV.out.symm, L1⟩
    · have g0 : ((len : Int) == 1) = false := beq_eq_false_iff_ne.2 (by omega)
      have h0' : (len == 1) = false := by simp [h0]
      have H0 := Lib.hid h0
      clear h0
      have HV := Lib.hid (show hereE (9, 0, zs) len = false from by rw [hereE_zero (by decide), kindE_9, hb1, h0']; simp)
      go_wp2_with fail
      go_ret
      exact ⟨by first | exact ret_bool HV.out.symm | exact ret_bool ((decide_eq_false (by omega)).trans HV.out.symm), L1⟩

set_option maxHeartbeats 2000000 in
theorem sHereE_10 (zs : ByteArray) (A : Option Addr) (len c : Nat) (w : World) (hz : zs.size ≤ 1048576) :
    Calls Tryz.prog 44 #[.agg #[.int .i64 10, .int .i64 0, .string zs, .slice A len c]] w fun e w' => e = .returned (.bool (hereE (10, 0, zs) len)) ∧ Below w.heap.size w w' := by
  have _ := hz
  have B := Blk.new w 29 #[.int .i64 10, .int .i64 0, .string zs, .slice A len c]
  have L0 := bl_alloc (Below.refl w.heap.size w) (.cells #[.int .i64 10, .int .i64 0, .string zs, .slice A len c] 29)
  have c1 := fun w => sRexN zs w
  obtain ⟨q1, hb1⟩ : ∃ q, rexNB zs = q := ⟨_, rfl⟩
  rw [hb1] at c1
  have C1 := Lib.hid c1
  clear c1
  go_enter Tryz.func44, Tryz.ntmps44
  go_wp2_with fail
  go_wp2_with fail
  refine (C1.out _).mono ?_; rintro e w1 ⟨rfl, b1⟩
  have L1 := bl_trans L0 b1
  have B1 := B.keep b1
  have p1 := B1.cell
  cases q1
  · skip
    have HV := Lib.hid (show hereE (10, 0, zs) len = false from by rw [hereE_zero (by decide), kindE_10, hb1]; simp)
    go_wp2_with fail
    go_ret
    exact ⟨ret_bool HV.out.symm, L1⟩
  · skip
    by_cases h0 : len = 1
    · have g0 : ((len : Int) == 1) = true := by simp [h0]
      have h0' : (len == 1) = true := by simp [h0]
      have H0 := Lib.hid h0
      clear h0
      have HV := Lib.hid (show hereE (10, 0, zs) len = true from by rw [hereE_zero (by decide), kindE_10, hb1, h0']; rfl)
      go_wp2_with fail
      go_ret
      exact ⟨ret_bool HV.out.symm, L1⟩
    · have g0 : ((len : Int) == 1) = false := beq_eq_false_iff_ne.2 (by omega)
      have h0' : (len == 1) = false := by simp [h0]
      have H0 := Lib.hid h0
      clear h0
      have HV := Lib.hid (show hereE (10, 0, zs) len = false from by rw [hereE_zero (by decide), kindE_10, hb1, h0']; simp)
      go_wp2_with fail
      go_ret
      exact ⟨by first | exact ret_bool HV.out.symm | exact ret_bool ((decide_eq_false (by omega)).trans HV.out.symm), L1⟩

set_option maxHeartbeats 2000000 in
theorem sHereE_11 (zs : ByteArray) (A : Option Addr) (len c : Nat) (w : World) (hz : zs.size ≤ 1048576) :
    Calls Tryz.prog 44 #[.agg #[.int .i64 11, .int .i64 0, .string zs, .slice A len c]] w fun e w' => e = .returned (.bool (hereE (11, 0, zs) len)) ∧ Below w.heap.size w w' := by
  have _ := hz
  have B := Blk.new w 29 #[.int .i64 11, .int .i64 0, .string zs, .slice A len c]
  have L0 := bl_alloc (Below.refl w.heap.size w) (.cells #[.int .i64 11, .int .i64 0, .string zs, .slice A len c] 29)
  have c1 := fun w => sNameOk zs w (by omega)
  obtain ⟨q1, hb1⟩ : ∃ q, nameOkB zs = q := ⟨_, rfl⟩
  rw [hb1] at c1
  have C1 := Lib.hid c1
  clear c1
  go_enter Tryz.func44, Tryz.ntmps44
  go_wp2_with fail
  go_wp2_with fail
  refine (C1.out _).mono ?_; rintro e w1 ⟨rfl, b1⟩
  have L1 := bl_trans L0 b1
  have B1 := B.keep b1
  have p1 := B1.cell
  cases q1
  · skip
    have HV := Lib.hid (show hereE (11, 0, zs) len = false from by rw [hereE_zero (by decide), kindE_11, hb1]; simp)
    go_wp2_with fail
    go_ret
    exact ⟨ret_bool HV.out.symm, L1⟩
  · skip
    by_cases h0 : len ≤ 4
    · have g0 : (len : Int) ≤ 4 := by omega
      have h0' : decide (len ≤ 4) = true := by simp [h0]
      have H0 := Lib.hid h0
      clear h0
      have HV := Lib.hid (show hereE (11, 0, zs) len = true from by rw [hereE_zero (by decide), kindE_11, hb1, h0']; rfl)
      go_wp2_with fail
      go_ret
      exact ⟨ret_bool HV.out.symm, L1⟩
    · have g0 : ¬ (len : Int) ≤ 4 := by omega
      have h0' : decide (len ≤ 4) = false := by simp [h0]
      have H0 := Lib.hid h0
      clear h0
      have HV := Lib.hid (show hereE (11, 0, zs) len = false from by rw [hereE_zero (by decide), kindE_11, hb1, h0']; simp)
      go_wp2_with fail
      go_ret
      exact ⟨by first | exact ret_bool HV.out.symm | exact ret_bool ((decide_eq_false (by omega)).trans HV.out.symm), L1⟩

set_option maxHeartbeats 2000000 in
theorem sHereE_12 (zs : ByteArray) (A : Option Addr) (len c : Nat) (w : World) (hz : zs.size ≤ 1048576) :
    Calls Tryz.prog 44 #[.agg #[.int .i64 12, .int .i64 0, .string zs, .slice A len c]] w fun e w' => e = .returned (.bool (hereE (12, 0, zs) len)) ∧ Below w.heap.size w w' := by
  have _ := hz
  have B := Blk.new w 29 #[.int .i64 12, .int .i64 0, .string zs, .slice A len c]
  have L0 := bl_alloc (Below.refl w.heap.size w) (.cells #[.int .i64 12, .int .i64 0, .string zs, .slice A len c] 29)
  cases he : zs.toList.isEmpty
  · skip
    have HV := Lib.hid (show hereE (12, 0, zs) len = false from by rw [hereE_zero (by decide), kindE_12, he]; simp)
    go_enter Tryz.func44, Tryz.ntmps44
    go_wp2_with fail
    go_wp2_with fail
    go_ret
    exact ⟨by first | exact ret_bool HV.out.symm | exact ret_bool ((decide_eq_false (by omega)).trans HV.out.symm), L0⟩
  · skip
    by_cases h0 : len = 1
    · have g0 : ((len : Int) == 1) = true := by simp [h0]
      have h0' : (len == 1) = true := by simp [h0]
      have H0 := Lib.hid h0
      clear h0
      have HV := Lib.hid (show hereE (12, 0, zs) len = true from by rw [hereE_zero (by decide), kindE_12, he, h0']; rfl)
      go_enter Tryz.func44, Tryz.ntmps44
      go_wp2_with fail
      go_wp2_with fail
      go_ret
      exact ⟨ret_bool HV.out.symm, L0⟩
    · have g0 : ((len : Int) == 1) = false := beq_eq_false_iff_ne.2 (by omega)
      have h0' : (len == 1) = false := by simp [h0]
      have H0 := Lib.hid h0
      clear h0
      have HV := Lib.hid (show hereE (12, 0, zs) len = false from by rw [hereE_zero (by decide), kindE_12, he, h0']; simp)
      go_enter Tryz.func44, Tryz.ntmps44
      go_wp2_with fail
      go_wp2_with fail
      go_ret
      exact ⟨by first | exact ret_bool HV.out.symm | exact ret_bool ((decide_eq_false (by omega)).trans HV.out.symm), L0⟩

set_option maxHeartbeats 2000000 in
theorem sHereE_13 (zs : ByteArray) (A : Option Addr) (len c : Nat) (w : World) (hz : zs.size ≤ 1048576) :
    Calls Tryz.prog 44 #[.agg #[.int .i64 13, .int .i64 0, .string zs, .slice A len c]] w fun e w' => e = .returned (.bool (hereE (13, 0, zs) len)) ∧ Below w.heap.size w w' := by
  have _ := hz
  have B := Blk.new w 29 #[.int .i64 13, .int .i64 0, .string zs, .slice A len c]
  have L0 := bl_alloc (Below.refl w.heap.size w) (.cells #[.int .i64 13, .int .i64 0, .string zs, .slice A len c] 29)
  cases he : zs.toList.isEmpty
  · skip
    have HV := Lib.hid (show hereE (13, 0, zs) len = false from by rw [hereE_zero (by decide), kindE_13, he]; simp)
    go_enter Tryz.func44, Tryz.ntmps44
    go_wp2_with fail
    go_wp2_with fail
    go_ret
    exact ⟨by first | exact ret_bool HV.out.symm | exact ret_bool ((decide_eq_false (by omega)).trans HV.out.symm), L0⟩
  · skip
    by_cases h0 : len = 3
    · have g0 : ((len : Int) == 3) = true := by simp [h0]
      have h0' : (len == 3) = true := by simp [h0]
      have H0 := Lib.hid h0
      clear h0
      have HV := Lib.hid (show hereE (13, 0, zs) len = true from by rw [hereE_zero (by decide), kindE_13, he, h0']; rfl)
      go_enter Tryz.func44, Tryz.ntmps44
      go_wp2_with fail
      go_wp2_with fail
      go_ret
      exact ⟨ret_bool HV.out.symm, L0⟩
    · have g0 : ((len : Int) == 3) = false := beq_eq_false_iff_ne.2 (by omega)
      have h0' : (len == 3) = false := by simp [h0]
      have H0 := Lib.hid h0
      clear h0
      have HV := Lib.hid (show hereE (13, 0, zs) len = false from by rw [hereE_zero (by decide), kindE_13, he, h0']; simp)
      go_enter Tryz.func44, Tryz.ntmps44
      go_wp2_with fail
      go_wp2_with fail
      go_ret
      exact ⟨by first | exact ret_bool HV.out.symm | exact ret_bool ((decide_eq_false (by omega)).trans HV.out.symm), L0⟩

set_option maxHeartbeats 2000000 in
theorem sHereE_14 (zs : ByteArray) (A : Option Addr) (len c : Nat) (w : World) (hz : zs.size ≤ 1048576) :
    Calls Tryz.prog 44 #[.agg #[.int .i64 14, .int .i64 0, .string zs, .slice A len c]] w fun e w' => e = .returned (.bool (hereE (14, 0, zs) len)) ∧ Below w.heap.size w w' := by
  have _ := hz
  have B := Blk.new w 29 #[.int .i64 14, .int .i64 0, .string zs, .slice A len c]
  have L0 := bl_alloc (Below.refl w.heap.size w) (.cells #[.int .i64 14, .int .i64 0, .string zs, .slice A len c] 29)
  cases he : zs.toList.isEmpty
  · skip
    have HV := Lib.hid (show hereE (14, 0, zs) len = false from by rw [hereE_zero (by decide), kindE_14, he]; simp)
    go_enter Tryz.func44, Tryz.ntmps44
    go_wp2_with fail
    go_wp2_with fail
    go_ret
    exact ⟨by first | exact ret_bool HV.out.symm | exact ret_bool ((decide_eq_false (by omega)).trans HV.out.symm), L0⟩
  · skip
    by_cases h0 : len = 0
    · have g0 : ((len : Int) == 0) = true := by simp [h0]
      have h0' : (len == 0) = true := by simp [h0]
      have H0 := Lib.hid h0
      clear h0
      have HV := Lib.hid (show hereE (14, 0, zs) len = true from by rw [hereE_zero (by decide), kindE_14, he, h0']; rfl)
      go_enter Tryz.func44, Tryz.ntmps44
      go_wp2_with fail
      go_wp2_with fail
      go_ret
      exact ⟨ret_bool HV.out.symm, L0⟩
    · have g0 : ((len : Int) == 0) = false := beq_eq_false_iff_ne.2 (by omega)
      have h0' : (len == 0) = false := by simp [h0]
      have H0 := Lib.hid h0
      clear h0
      have HV := Lib.hid (show hereE (14, 0, zs) len = false from by rw [hereE_zero (by decide), kindE_14, he, h0']; simp)
      go_enter Tryz.func44, Tryz.ntmps44
      go_wp2_with fail
      go_wp2_with fail
      go_ret
      exact ⟨by first | exact ret_bool HV.out.symm | exact ret_bool ((decide_eq_false (by omega)).trans HV.out.symm), L0⟩

set_option maxHeartbeats 2000000 in
theorem sHereE_15 (zs : ByteArray) (A : Option Addr) (len c : Nat) (w : World) (hz : zs.size ≤ 1048576) :
    Calls Tryz.prog 44 #[.agg #[.int .i64 15, .int .i64 0, .string zs, .slice A len c]] w fun e w' => e = .returned (.bool (hereE (15, 0, zs) len)) ∧ Below w.heap.size w w' := by
  have _ := hz
  have B := Blk.new w 29 #[.int .i64 15, .int .i64 0, .string zs, .slice A len c]
  have L0 := bl_alloc (Below.refl w.heap.size w) (.cells #[.int .i64 15, .int .i64 0, .string zs, .slice A len c] 29)
  cases he : zs.toList.isEmpty
  · skip
    have HV := Lib.hid (show hereE (15, 0, zs) len = false from by rw [hereE_zero (by decide), kindE_15, he]; simp)
    go_enter Tryz.func44, Tryz.ntmps44
    go_wp2_with fail
    go_wp2_with fail
    go_ret
    exact ⟨by first | exact ret_bool HV.out.symm | exact ret_bool ((decide_eq_false (by omega)).trans HV.out.symm), L0⟩
  · skip
    by_cases h0 : len = 0
    · have g0 : ((len : Int) == 0) = true := by simp [h0]
      have h0' : (len == 0) = true := by simp [h0]
      have H0 := Lib.hid h0
      clear h0
      have HV := Lib.hid (show hereE (15, 0, zs) len = true from by rw [hereE_zero (by decide), kindE_15, he, h0']; rfl)
      go_enter Tryz.func44, Tryz.ntmps44
      go_wp2_with fail
      go_wp2_with fail
      go_ret
      exact ⟨ret_bool HV.out.symm, L0⟩
    · have g0 : ((len : Int) == 0) = false := beq_eq_false_iff_ne.2 (by omega)
      have h0' : (len == 0) = false := by simp [h0]
      have H0 := Lib.hid h0
      clear h0
      have HV := Lib.hid (show hereE (15, 0, zs) len = false from by rw [hereE_zero (by decide), kindE_15, he, h0']; simp)
      go_enter Tryz.func44, Tryz.ntmps44
      go_wp2_with fail
      go_wp2_with fail
      go_ret
      exact ⟨by first | exact ret_bool HV.out.symm | exact ret_bool ((decide_eq_false (by omega)).trans HV.out.symm), L0⟩

set_option maxHeartbeats 2000000 in
theorem sHereE_16 (zs : ByteArray) (A : Option Addr) (len c : Nat) (w : World) (hz : zs.size ≤ 1048576) :
    Calls Tryz.prog 44 #[.agg #[.int .i64 16, .int .i64 0, .string zs, .slice A len c]] w fun e w' => e = .returned (.bool (hereE (16, 0, zs) len)) ∧ Below w.heap.size w w' := by
  have _ := hz
  have B := Blk.new w 29 #[.int .i64 16, .int .i64 0, .string zs, .slice A len c]
  have L0 := bl_alloc (Below.refl w.heap.size w) (.cells #[.int .i64 16, .int .i64 0, .string zs, .slice A len c] 29)
  cases he : zs.toList.isEmpty
  · skip
    have HV := Lib.hid (show hereE (16, 0, zs) len = false from by rw [hereE_zero (by decide), kindE_16, he]; simp)
    go_enter Tryz.func44, Tryz.ntmps44
    go_wp2_with fail
    go_wp2_with fail
    go_ret
    exact ⟨by first | exact ret_bool HV.out.symm | exact ret_bool ((decide_eq_false (by omega)).trans HV.out.symm), L0⟩
  · skip
    by_cases h0 : len = 2
    · have g0 : ((len : Int) == 2) = true := by simp [h0]
      have h0' : (len == 2) = true := by simp [h0]
      have H0 := Lib.hid h0
      clear h0
      have HV := Lib.hid (show hereE (16, 0, zs) len = true from by rw [hereE_zero (by decide), kindE_16, he, h0']; rfl)
      go_enter Tryz.func44, Tryz.ntmps44
      go_wp2_with fail
      go_wp2_with fail
      go_ret
      exact ⟨ret_bool HV.out.symm, L0⟩
    · have g0 : ((len : Int) == 2) = false := beq_eq_false_iff_ne.2 (by omega)
      have h0' : (len == 2) = false := by simp [h0]
      have H0 := Lib.hid h0
      clear h0
      have HV := Lib.hid (show hereE (16, 0, zs) len = false from by rw [hereE_zero (by decide), kindE_16, he, h0']; simp)
      go_enter Tryz.func44, Tryz.ntmps44
      go_wp2_with fail
      go_wp2_with fail
      go_ret
      exact ⟨by first | exact ret_bool HV.out.symm | exact ret_bool ((decide_eq_false (by omega)).trans HV.out.symm), L0⟩

set_option maxHeartbeats 2000000 in
theorem sHereE_17 (zs : ByteArray) (A : Option Addr) (len c : Nat) (w : World) (hz : zs.size ≤ 1048576) :
    Calls Tryz.prog 44 #[.agg #[.int .i64 17, .int .i64 0, .string zs, .slice A len c]] w fun e w' => e = .returned (.bool (hereE (17, 0, zs) len)) ∧ Below w.heap.size w w' := by
  have _ := hz
  have B := Blk.new w 29 #[.int .i64 17, .int .i64 0, .string zs, .slice A len c]
  have L0 := bl_alloc (Below.refl w.heap.size w) (.cells #[.int .i64 17, .int .i64 0, .string zs, .slice A len c] 29)
  cases he : zs.toList.isEmpty
  · skip
    have HV := Lib.hid (show hereE (17, 0, zs) len = false from by rw [hereE_zero (by decide), kindE_17, he]; simp)
    go_enter Tryz.func44, Tryz.ntmps44
    go_wp2_with fail
    go_wp2_with fail
    go_ret
    exact ⟨by first | exact ret_bool HV.out.symm | exact ret_bool ((decide_eq_false (by omega)).trans HV.out.symm), L0⟩
  · skip
    by_cases h0 : len = 1
    · have g0 : ((len : Int) == 1) = true := by simp [h0]
      have h0' : (len == 1) = true := by simp [h0]
      have H0 := Lib.hid h0
      clear h0
      have HV := Lib.hid (show hereE (17, 0, zs) len = true from by rw [hereE_zero (by decide), kindE_17, he, h0']; rfl)
      go_enter Tryz.func44, Tryz.ntmps44
      go_wp2_with fail
      go_wp2_with fail
      go_ret
      exact ⟨ret_bool HV.out.symm, L0⟩
    · have g0 : ((len : Int) == 1) = false := beq_eq_false_iff_ne.2 (by omega)
      have h0' : (len == 1) = false := by simp [h0]
      have H0 := Lib.hid h0
      clear h0
      have HV := Lib.hid (show hereE (17, 0, zs) len = false from by rw [hereE_zero (by decide), kindE_17, he, h0']; simp)
      go_enter Tryz.func44, Tryz.ntmps44
      go_wp2_with fail
      go_wp2_with fail
      go_ret
      exact ⟨by first | exact ret_bool HV.out.symm | exact ret_bool ((decide_eq_false (by omega)).trans HV.out.symm), L0⟩

set_option maxHeartbeats 2000000 in
theorem sHereE_18 (zs : ByteArray) (A : Option Addr) (len c : Nat) (w : World) (hz : zs.size ≤ 1048576) :
    Calls Tryz.prog 44 #[.agg #[.int .i64 18, .int .i64 0, .string zs, .slice A len c]] w fun e w' => e = .returned (.bool (hereE (18, 0, zs) len)) ∧ Below w.heap.size w w' := by
  have _ := hz
  have B := Blk.new w 29 #[.int .i64 18, .int .i64 0, .string zs, .slice A len c]
  have L0 := bl_alloc (Below.refl w.heap.size w) (.cells #[.int .i64 18, .int .i64 0, .string zs, .slice A len c] 29)
  have c1 := fun w => sRexN zs w
  obtain ⟨q1, hb1⟩ : ∃ q, rexNB zs = q := ⟨_, rfl⟩
  rw [hb1] at c1
  have C1 := Lib.hid c1
  clear c1
  go_enter Tryz.func44, Tryz.ntmps44
  go_wp2_with fail
  go_wp2_with fail
  refine (C1.out _).mono ?_; rintro e w1 ⟨rfl, b1⟩
  have L1 := bl_trans L0 b1
  have B1 := B.keep b1
  have p1 := B1.cell
  cases q1
  · skip
    have HV := Lib.hid (show hereE (18, 0, zs) len = false from by rw [hereE_zero (by decide), kindE_18, hb1]; simp)
    go_wp2_with fail
    go_ret
    exact ⟨ret_bool HV.out.symm, L1⟩
  · skip
    by_cases h0 : len = 2
    · have g0 : ((len : Int) == 2) = true := by simp [h0]
      have h0' : (len == 2) = true := by simp [h0]
      have H0 := Lib.hid h0
      clear h0
      have HV := Lib.hid (show hereE (18, 0, zs) len = true from by rw [hereE_zero (by decide), kindE_18, hb1, h0']; rfl)
      go_wp2_with fail
      go_ret
      exact ⟨ret_bool HV.out.symm, L1⟩
    · have g0 : ((len : Int) == 2) = false := beq_eq_false_iff_ne.2 (by omega)
      have h0' : (len == 2) = false := by simp [h0]
      have H0 := Lib.hid h0
      clear h0
      have HV := Lib.hid (show hereE (18, 0, zs) len = false from by rw [hereE_zero (by decide), kindE_18, hb1, h0']; simp)
      go_wp2_with fail
      go_ret
      exact ⟨by first | exact ret_bool HV.out.symm | exact ret_bool ((decide_eq_false (by omega)).trans HV.out.symm), L1⟩

set_option maxHeartbeats 2000000 in
theorem sHereE (zk zn : Int) (zs : ByteArray) (A : Option Addr) (len c : Nat) (w : World) (hz : zs.size ≤ 1048576) :
    Calls Tryz.prog 44 #[.agg #[.int .i64 zk, .int .i64 zn, .string zs, .slice A len c]] w fun e w' => e = .returned (.bool (hereE (zk, zn, zs) len)) ∧ Below w.heap.size w w' := by
  by_cases n1 : zk = 1
  · subst n1; exact sHereE_1 zn zs A len c w hz
  have m1 : (zk == 1) = false := by simp [n1]
  have L0 := bl_alloc (Below.refl w.heap.size w) (.cells #[.int .i64 zk, .int .i64 zn, .string zs, .slice A len c] 29)
  by_cases z0 : zn = 0
  case neg =>
    have mz : (zn != 0) = true := by simp [z0]
    have m1' : (zk != 1) = true := by simp [n1]
    have HV := Lib.hid (hereE_not n1 z0 zs len)
    go_enter Tryz.func44, Tryz.ntmps44
    go_wp2_with fail
    go_ret
    exact ⟨ret_bool HV.out.symm, L0⟩
  subst z0
  by_cases n2 : zk = 2
  · subst n2; exact sHereE_2 zs A len c w hz
  have m2 : (zk == 2) = false := by simp [n2]
  by_cases n3 : zk = 3
  · subst n3; exact sHereE_3 zs A len c w hz
  have m3 : (zk == 3) = false := by simp [n3]
  by_cases n4 : zk = 4
  · subst n4; exact sHereE_4 zs A len c w hz
  have m4 : (zk == 4) = false := by simp [n4]
  by_cases n5 : zk = 5
  · subst n5; exact sHereE_5 zs A len c w hz
  have m5 : (zk == 5) = false := by simp [n5]
  by_cases n6 : zk = 6
  · subst n6; exact sHereE_6 zs A len c w hz
  have m6 : (zk == 6) = false := by simp [n6]
  by_cases n7 : zk = 7
  · subst n7; exact sHereE_7 zs A len c w hz
  have m7 : (zk == 7) = false := by simp [n7]
  by_cases n8 : zk = 8
  · subst n8; exact sHereE_8 zs A len c w hz
  have m8 : (zk == 8) = false := by simp [n8]
  by_cases n9 : zk = 9
  · subst n9; exact sHereE_9 zs A len c w hz
  have m9 : (zk == 9) = false := by simp [n9]
  by_cases n10 : zk = 10
  · subst n10; exact sHereE_10 zs A len c w hz
  have m10 : (zk == 10) = false := by simp [n10]
  by_cases n11 : zk = 11
  · subst n11; exact sHereE_11 zs A len c w hz
  have m11 : (zk == 11) = false := by simp [n11]
  by_cases n12 : zk = 12
  · subst n12; exact sHereE_12 zs A len c w hz
  have m12 : (zk == 12) = false := by simp [n12]
  by_cases n13 : zk = 13
  · subst n13; exact sHereE_13 zs A len c w hz
  have m13 : (zk == 13) = false := by simp [n13]
  by_cases n14 : zk = 14
  · subst n14; exact sHereE_14 zs A len c w hz
  have m14 : (zk == 14) = false := by simp [n14]
  by_cases n15 : zk = 15
  · subst n15; exact sHereE_15 zs A len c w hz
  have m15 : (zk == 15) = false := by simp [n15]
  by_cases n16 : zk = 16
  · subst n16; exact sHereE_16 zs A len c w hz
  have m16 : (zk == 16) = false := by simp [n16]
  by_cases n17 : zk = 17
  · subst n17; exact sHereE_17 zs A len c w hz
  have m17 : (zk == 17) = false := by simp [n17]
  by_cases n18 : zk = 18
  · subst n18; exact sHereE_18 zs A len c w hz
  have m18 : (zk == 18) = false := by simp [n18]
  have HV := Lib.hid (show hereE (zk, 0, zs) len = false from by
    rw [hereE_zero n1]
    exact kindE_none (by intro j hj; simp only [List.mem_cons, List.not_mem_nil, or_false] at hj; rcases hj with rfl | rfl | rfl | rfl | rfl | rfl | rfl | rfl | rfl | rfl | rfl | rfl | rfl | rfl | rfl | rfl | rfl | rfl <;> assumption) zs len)
  go_enter Tryz.func44, Tryz.ntmps44
  go_wp2_with fail
  go_ret
  exact ⟨ret_bool HV.out.symm, L0⟩

end Go.Proofs.YtemlnpncljomgaaGreatDoor
