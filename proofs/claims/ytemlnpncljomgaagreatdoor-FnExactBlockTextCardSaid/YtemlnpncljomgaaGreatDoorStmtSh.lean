import Derived.Test.YtemlnpncljomgaaGreatDoorStmtP
import Derived.Test.YtemlnpncljomgaaGreatDoorExprOk
import Derived.Deep.RegionHeld3
namespace Go.Proofs.YtemlnpncljomgaaGreatDoor
open Go.RowKit

set_option maxHeartbeats 2000000 in
theorem sShape (zk : Int) (zs zt : ByteArray) (x : Fr (Int × Int × ByteArray)) (p q : St) (X : Option Addr) (cx : Nat) (P : Option Addr) (cp : Nat) (Q : Option Addr) (cq : Nat) (m : Nat) (a b : Bool) (w : World) :
    Calls Tryz.prog 68 #[.agg #[.int .i64 zk, .string zs, .string zt, .slice X x.len cx, .slice P p.len cp, .slice Q q.len cq], .int .i64 m, .bool a, .bool b] w fun e w' => e = .returned (.bool ((x.len == m) && ((a || (p.len == 0)) && (b || (q.len == 0))))) ∧ Below w.heap.size w w' := by
  have B := Blk.new w 40 #[.int .i64 zk, .string zs, .string zt, .slice X x.len cx, .slice P p.len cp, .slice Q q.len cq]
  have L0 := bl_alloc (Below.refl w.heap.size w) (.cells #[.int .i64 zk, .string zs, .string zt, .slice X x.len cx, .slice P p.len cp, .slice Q q.len cq] 40)
  have hx : ((x.len : Int) == (m : Int)) = (x.len == m) := by
    by_cases h : x.len = m
    · rw [h]; simp
    · rw [beq_eq_false_iff_ne.2 h]; exact beq_eq_false_iff_ne.2 (by omega)
  have hp : ((p.len : Int) == 0) = (p.len == 0) := by
    by_cases h : p.len = 0
    · rw [h]; rfl
    · rw [beq_eq_false_iff_ne.2 h]; exact beq_eq_false_iff_ne.2 (by omega)
  have hq : ((q.len : Int) == 0) = (q.len == 0) := by
    by_cases h : q.len = 0
    · rw [h]; rfl
    · rw [beq_eq_false_iff_ne.2 h]; exact beq_eq_false_iff_ne.2 (by omega)
  obtain ⟨u, hu⟩ : ∃ u, (x.len == m) = u := ⟨_, rfl⟩
  obtain ⟨v, hv⟩ : ∃ v, (p.len == 0) = v := ⟨_, rfl⟩
  obtain ⟨y, hy⟩ : ∃ y, (q.len == 0) = y := ⟨_, rfl⟩
  rw [hu] at hx
  rw [hv] at hp
  rw [hy] at hq
  rw [hu, hv, hy]
  clear hu hv hy
  cases u <;> cases a <;> cases v <;> cases b <;> cases y
  all_goals
    go_enter Tryz.func68, Tryz.ntmps68
    go_wp2_with fail
    go_ret
    exact ⟨rfl, L0⟩

set_option maxHeartbeats 4000000 in
theorem sHereS_1 (zs zt : ByteArray) (x : Fr (Int × Int × ByteArray)) (p q : St) (X : Option Addr) (cx : Nat) (P : Option Addr) (cp : Nat) (Q : Option Addr) (cq : Nat) (w : World) (hz : zs.size ≤ 1048576) (ht0 : zt.size ≤ 1048576) (hX : Sl exprC w 0 w.heap.size X x) :
    Calls Tryz.prog 48 #[.agg #[.int .i64 1, .string zs, .string zt, .slice X x.len cx, .slice P p.len cp, .slice Q q.len cq]] w fun e w' => e = .returned (.bool (headS 1 zs zt x p.len q.len)) ∧ Below w.heap.size w w' := by
  have _ := hz
  have _ := ht0
  have _ := hX
  have B := Blk.new w 40 #[.int .i64 1, .string zs, .string zt, .slice X x.len cx, .slice P p.len cp, .slice Q q.len cq]
  have L0 := bl_alloc (Below.refl w.heap.size w) (.cells #[.int .i64 1, .string zs, .string zt, .slice X x.len cx, .slice P p.len cp, .slice Q q.len cq] 40)
  go_enter Tryz.func48, Tryz.ntmps48
  cases ht : zt.toList.isEmpty
  · skip
    have HV := Lib.hid (show headS 1 zs zt x p.len q.len = false from by rw [headS_1, ht]; simp)
    go_wp2_with fail
    go_ret
    exact ⟨ret_bool (HV.out.symm), L0⟩
  · skip
    have c1 := fun w => sIn (x.len : Int) 1 5 w
    obtain ⟨q1, hb1⟩ : ∃ q, inI (x.len : Int) 1 5 = q := ⟨_, rfl⟩
    rw [hb1] at c1
    have C1 := Lib.hid c1
    clear c1
    go_wp2_with fail
    refine (C1.out _).mono ?_; rintro e w1 ⟨rfl, rfl⟩
    have L1 := L0
    have B1 := B
    cases q1
    · skip
      have HV := Lib.hid (show headS 1 zs zt x p.len q.len = false from by rw [headS_1, ht, hb1]; simp)
      go_wp2_with fail
      go_ret
      exact ⟨ret_bool (HV.out.symm), L1⟩
    · skip
      cases he : zs.toList.isEmpty
      · skip
        have HV := Lib.hid (show headS 1 zs zt x p.len q.len = false from by rw [headS_1, ht, hb1, he]; simp)
        go_wp2_with fail
        go_ret
        exact ⟨ret_bool (HV.out.symm), L1⟩
      · skip
        by_cases hp0 : p.len = 0
        · have gp : ((p.len : Int) == 0) = true := by simp [hp0]
          have hp0' : (p.len == 0) = true := by simp [hp0]
          have gp2 : ¬ (0 : Int) < (p.len : Int) := by omega
          have Hp := Lib.hid hp0
          clear hp0
          by_cases hq0 : q.len = 0
          · have gq : ((q.len : Int) == 0) = true := by simp [hq0]
            have hq0' : (q.len == 0) = true := by simp [hq0]
            have gq2 : ¬ (0 : Int) < (q.len : Int) := by omega
            have Hq := Lib.hid hq0
            clear hq0
            have HV := Lib.hid (show headS 1 zs zt x p.len q.len = true from by rw [headS_1, ht, hb1, he, hp0', hq0']; rfl)
            go_wp2_with fail
            go_ret
            exact ⟨ret_bool (HV.out.symm), L1⟩
          · have gq : ((q.len : Int) == 0) = false := beq_eq_false_iff_ne.2 (by omega)
            have hq0' : (q.len == 0) = false := by simp [hq0]
            have gq2 : (0 : Int) < (q.len : Int) := by omega
            have Hq := Lib.hid hq0
            clear hq0
            have HV := Lib.hid (show headS 1 zs zt x p.len q.len = false from by rw [headS_1, ht, hb1, he, hp0', hq0']; simp)
            go_wp2_with fail
            go_ret
            exact ⟨ret_bool (HV.out.symm), L1⟩
        · have gp : ((p.len : Int) == 0) = false := beq_eq_false_iff_ne.2 (by omega)
          have hp0' : (p.len == 0) = false := by simp [hp0]
          have gp2 : (0 : Int) < (p.len : Int) := by omega
          have Hp := Lib.hid hp0
          clear hp0
          have HV := Lib.hid (show headS 1 zs zt x p.len q.len = false from by rw [headS_1, ht, hb1, he, hp0']; simp)
          go_wp2_with fail
          go_ret
          exact ⟨ret_bool (HV.out.symm), L1⟩

set_option maxHeartbeats 4000000 in
theorem sHereS_2 (zs zt : ByteArray) (x : Fr (Int × Int × ByteArray)) (p q : St) (X : Option Addr) (cx : Nat) (P : Option Addr) (cp : Nat) (Q : Option Addr) (cq : Nat) (w : World) (hz : zs.size ≤ 1048576) (ht0 : zt.size ≤ 1048576) (hX : Sl exprC w 0 w.heap.size X x) :
    Calls Tryz.prog 48 #[.agg #[.int .i64 2, .string zs, .string zt, .slice X x.len cx, .slice P p.len cp, .slice Q q.len cq]] w fun e w' => e = .returned (.bool (headS 2 zs zt x p.len q.len)) ∧ Below w.heap.size w w' := by
  have _ := hz
  have _ := ht0
  have _ := hX
  have B := Blk.new w 40 #[.int .i64 2, .string zs, .string zt, .slice X x.len cx, .slice P p.len cp, .slice Q q.len cq]
  have L0 := bl_alloc (Below.refl w.heap.size w) (.cells #[.int .i64 2, .string zs, .string zt, .slice X x.len cx, .slice P p.len cp, .slice Q q.len cq] 40)
  go_enter Tryz.func48, Tryz.ntmps48
  cases ht : zt.toList.isEmpty
  · skip
    have HV := Lib.hid (show headS 2 zs zt x p.len q.len = false from by rw [headS_2, ht]; simp)
    go_wp2_with fail
    go_ret
    exact ⟨ret_bool (HV.out.symm), L0⟩
  · skip
    have c1 := fun w => sNameOk zs w (by omega)
    obtain ⟨q1, hb1⟩ : ∃ q, nameOkB zs = q := ⟨_, rfl⟩
    rw [hb1] at c1
    have C1 := Lib.hid c1
    clear c1
    go_wp2_with fail
    refine (C1.out _).mono ?_; rintro e w1 ⟨rfl, b1⟩
    have L1 := bl_trans L0 b1
    have B1 := B.keep b1
    have p1 := B1.cell
    cases q1
    · skip
      have HV := Lib.hid (show headS 2 zs zt x p.len q.len = false from by rw [headS_2, ht, hb1]; simp)
      go_wp2_with fail
      go_ret
      exact ⟨ret_bool (HV.out.symm), L1⟩
    · skip
      by_cases hx0 : x.len = 1
      · have hx0' : (x.len == 1) = true := by simp [hx0]
        have Hx := Lib.hid hx0
        clear hx0
        by_cases hp0 : p.len = 0
        · have hp0' : (p.len == 0) = true := by simp [hp0]
          have Hp := Lib.hid hp0
          clear hp0
          by_cases hq0 : q.len = 0
          · have hq0' : (q.len == 0) = true := by simp [hq0]
            have Hq := Lib.hid hq0
            clear hq0
            go_wp2_with fail
            refine (sShape 2 zs zt x p q X cx P cp Q cq 1 false false _).mono ?_; rintro e w2 ⟨rfl, b2⟩
            have B2 := B1.keep b2
            have p2 := B2.cell
            have L2 := bl_trans L1 b2
            rw [show ((x.len == 1) && ((false || (p.len == 0)) && (false || (q.len == 0)))) = true from by rw [hx0', hp0', hq0']; rfl]
            have HV := Lib.hid (show headS 2 zs zt x p.len q.len = true from by rw [headS_2, ht, hb1, hx0', hp0', hq0']; rfl)
            go_wp2_with fail
            go_ret
            exact ⟨ret_bool (HV.out.symm), L2⟩
          · have hq0' : (q.len == 0) = false := by simp [hq0]
            have Hq := Lib.hid hq0
            clear hq0
            go_wp2_with fail
            refine (sShape 2 zs zt x p q X cx P cp Q cq 1 false false _).mono ?_; rintro e w2 ⟨rfl, b2⟩
            have B2 := B1.keep b2
            have p2 := B2.cell
            have L2 := bl_trans L1 b2
            rw [show ((x.len == 1) && ((false || (p.len == 0)) && (false || (q.len == 0)))) = false from by rw [hx0', hp0', hq0']; simp]
            have HV := Lib.hid (show headS 2 zs zt x p.len q.len = false from by rw [headS_2, ht, hb1, hx0', hp0', hq0']; simp)
            go_wp2_with fail
            go_ret
            exact ⟨ret_bool (HV.out.symm), L2⟩
        · have hp0' : (p.len == 0) = false := by simp [hp0]
          have Hp := Lib.hid hp0
          clear hp0
          go_wp2_with fail
          refine (sShape 2 zs zt x p q X cx P cp Q cq 1 false false _).mono ?_; rintro e w2 ⟨rfl, b2⟩
          have B2 := B1.keep b2
          have p2 := B2.cell
          have L2 := bl_trans L1 b2
          rw [show ((x.len == 1) && ((false || (p.len == 0)) && (false || (q.len == 0)))) = false from by rw [hx0', hp0']; simp]
          have HV := Lib.hid (show headS 2 zs zt x p.len q.len = false from by rw [headS_2, ht, hb1, hx0', hp0']; simp)
          go_wp2_with fail
          go_ret
          exact ⟨ret_bool (HV.out.symm), L2⟩
      · have hx0' : (x.len == 1) = false := by simp [hx0]
        have Hx := Lib.hid hx0
        clear hx0
        go_wp2_with fail
        refine (sShape 2 zs zt x p q X cx P cp Q cq 1 false false _).mono ?_; rintro e w2 ⟨rfl, b2⟩
        have B2 := B1.keep b2
        have p2 := B2.cell
        have L2 := bl_trans L1 b2
        rw [show ((x.len == 1) && ((false || (p.len == 0)) && (false || (q.len == 0)))) = false from by rw [hx0']; simp]
        have HV := Lib.hid (show headS 2 zs zt x p.len q.len = false from by rw [headS_2, ht, hb1, hx0']; simp)
        go_wp2_with fail
        go_ret
        exact ⟨ret_bool (HV.out.symm), L2⟩

set_option maxHeartbeats 4000000 in
theorem sHereS_3 (zs zt : ByteArray) (x : Fr (Int × Int × ByteArray)) (p q : St) (X : Option Addr) (cx : Nat) (P : Option Addr) (cp : Nat) (Q : Option Addr) (cq : Nat) (w : World) (hz : zs.size ≤ 1048576) (ht0 : zt.size ≤ 1048576) (hX : Sl exprC w 0 w.heap.size X x) :
    Calls Tryz.prog 48 #[.agg #[.int .i64 3, .string zs, .string zt, .slice X x.len cx, .slice P p.len cp, .slice Q q.len cq]] w fun e w' => e = .returned (.bool (headS 3 zs zt x p.len q.len)) ∧ Below w.heap.size w w' := by
  have _ := hz
  have _ := ht0
  have _ := hX
  have B := Blk.new w 40 #[.int .i64 3, .string zs, .string zt, .slice X x.len cx, .slice P p.len cp, .slice Q q.len cq]
  have L0 := bl_alloc (Below.refl w.heap.size w) (.cells #[.int .i64 3, .string zs, .string zt, .slice X x.len cx, .slice P p.len cp, .slice Q q.len cq] 40)
  go_enter Tryz.func48, Tryz.ntmps48
  cases ht : zt.toList.isEmpty
  · skip
    have HV := Lib.hid (show headS 3 zs zt x p.len q.len = false from by rw [headS_3, ht]; simp)
    go_wp2_with fail
    go_ret
    exact ⟨ret_bool (HV.out.symm), L0⟩
  · skip
    have c1 := fun w => sNameOk zs w (by omega)
    obtain ⟨q1, hb1⟩ : ∃ q, nameOkB zs = q := ⟨_, rfl⟩
    rw [hb1] at c1
    have C1 := Lib.hid c1
    clear c1
    go_wp2_with fail
    refine (C1.out _).mono ?_; rintro e w1 ⟨rfl, b1⟩
    have L1 := bl_trans L0 b1
    have B1 := B.keep b1
    have p1 := B1.cell
    cases q1
    · skip
      have HV := Lib.hid (show headS 3 zs zt x p.len q.len = false from by rw [headS_3, ht, hb1]; simp)
      go_wp2_with fail
      go_ret
      exact ⟨ret_bool (HV.out.symm), L1⟩
    · skip
      by_cases hx0 : x.len = 2
      · have hx0' : (x.len == 2) = true := by simp [hx0]
        have Hx := Lib.hid hx0
        clear hx0
        by_cases hp0 : p.len = 0
        · have hp0' : (p.len == 0) = true := by simp [hp0]
          have Hp := Lib.hid hp0
          clear hp0
          by_cases hq0 : q.len = 0
          · have hq0' : (q.len == 0) = true := by simp [hq0]
            have Hq := Lib.hid hq0
            clear hq0
            go_wp2_with fail
            refine (sShape 3 zs zt x p q X cx P cp Q cq 2 false false _).mono ?_; rintro e w2 ⟨rfl, b2⟩
            have B2 := B1.keep b2
            have p2 := B2.cell
            have L2 := bl_trans L1 b2
            rw [show ((x.len == 2) && ((false || (p.len == 0)) && (false || (q.len == 0)))) = true from by rw [hx0', hp0', hq0']; rfl]
            have HV := Lib.hid (show headS 3 zs zt x p.len q.len = true from by rw [headS_3, ht, hb1, hx0', hp0', hq0']; rfl)
            go_wp2_with fail
            go_ret
            exact ⟨ret_bool (HV.out.symm), L2⟩
          · have hq0' : (q.len == 0) = false := by simp [hq0]
            have Hq := Lib.hid hq0
            clear hq0
            go_wp2_with fail
            refine (sShape 3 zs zt x p q X cx P cp Q cq 2 false false _).mono ?_; rintro e w2 ⟨rfl, b2⟩
            have B2 := B1.keep b2
            have p2 := B2.cell
            have L2 := bl_trans L1 b2
            rw [show ((x.len == 2) && ((false || (p.len == 0)) && (false || (q.len == 0)))) = false from by rw [hx0', hp0', hq0']; simp]
            have HV := Lib.hid (show headS 3 zs zt x p.len q.len = false from by rw [headS_3, ht, hb1, hx0', hp0', hq0']; simp)
            go_wp2_with fail
            go_ret
            exact ⟨ret_bool (HV.out.symm), L2⟩
        · have hp0' : (p.len == 0) = false := by simp [hp0]
          have Hp := Lib.hid hp0
          clear hp0
          go_wp2_with fail
          refine (sShape 3 zs zt x p q X cx P cp Q cq 2 false false _).mono ?_; rintro e w2 ⟨rfl, b2⟩
          have B2 := B1.keep b2
          have p2 := B2.cell
          have L2 := bl_trans L1 b2
          rw [show ((x.len == 2) && ((false || (p.len == 0)) && (false || (q.len == 0)))) = false from by rw [hx0', hp0']; simp]
          have HV := Lib.hid (show headS 3 zs zt x p.len q.len = false from by rw [headS_3, ht, hb1, hx0', hp0']; simp)
          go_wp2_with fail
          go_ret
          exact ⟨ret_bool (HV.out.symm), L2⟩
      · have hx0' : (x.len == 2) = false := by simp [hx0]
        have Hx := Lib.hid hx0
        clear hx0
        go_wp2_with fail
        refine (sShape 3 zs zt x p q X cx P cp Q cq 2 false false _).mono ?_; rintro e w2 ⟨rfl, b2⟩
        have B2 := B1.keep b2
        have p2 := B2.cell
        have L2 := bl_trans L1 b2
        rw [show ((x.len == 2) && ((false || (p.len == 0)) && (false || (q.len == 0)))) = false from by rw [hx0']; simp]
        have HV := Lib.hid (show headS 3 zs zt x p.len q.len = false from by rw [headS_3, ht, hb1, hx0']; simp)
        go_wp2_with fail
        go_ret
        exact ⟨ret_bool (HV.out.symm), L2⟩

set_option maxHeartbeats 4000000 in
theorem sHereS_4 (zs zt : ByteArray) (x : Fr (Int × Int × ByteArray)) (p q : St) (X : Option Addr) (cx : Nat) (P : Option Addr) (cp : Nat) (Q : Option Addr) (cq : Nat) (w : World) (hz : zs.size ≤ 1048576) (ht0 : zt.size ≤ 1048576) (hX : Sl exprC w 0 w.heap.size X x) :
    Calls Tryz.prog 48 #[.agg #[.int .i64 4, .string zs, .string zt, .slice X x.len cx, .slice P p.len cp, .slice Q q.len cq]] w fun e w' => e = .returned (.bool (headS 4 zs zt x p.len q.len)) ∧ Below w.heap.size w w' := by
  have _ := hz
  have _ := ht0
  have _ := hX
  have B := Blk.new w 40 #[.int .i64 4, .string zs, .string zt, .slice X x.len cx, .slice P p.len cp, .slice Q q.len cq]
  have L0 := bl_alloc (Below.refl w.heap.size w) (.cells #[.int .i64 4, .string zs, .string zt, .slice X x.len cx, .slice P p.len cp, .slice Q q.len cq] 40)
  go_enter Tryz.func48, Tryz.ntmps48
  cases ht : zt.toList.isEmpty
  · skip
    have HV := Lib.hid (show headS 4 zs zt x p.len q.len = false from by rw [headS_4, ht]; simp)
    go_wp2_with fail
    go_ret
    exact ⟨ret_bool (HV.out.symm), L0⟩
  · skip
    cases he : zs.toList.isEmpty
    · skip
      have HV := Lib.hid (show headS 4 zs zt x p.len q.len = false from by rw [headS_4, ht, he]; simp)
      go_wp2_with fail
      go_ret
      exact ⟨ret_bool (HV.out.symm), L0⟩
    · skip
      by_cases hx0 : x.len = 2
      · have hx0' : (x.len == 2) = true := by simp [hx0]
        have Hx := Lib.hid hx0
        clear hx0
        by_cases hp0 : p.len = 0
        · have hp0' : (p.len == 0) = true := by simp [hp0]
          have Hp := Lib.hid hp0
          clear hp0
          by_cases hq0 : q.len = 0
          · have hq0' : (q.len == 0) = true := by simp [hq0]
            have Hq := Lib.hid hq0
            clear hq0
            go_wp2_with fail
            refine (sShape 4 zs zt x p q X cx P cp Q cq 2 false false _).mono ?_; rintro e w1 ⟨rfl, b1⟩
            have B1 := B.keep b1
            have p1 := B1.cell
            have L1 := bl_trans L0 b1
            rw [show ((x.len == 2) && ((false || (p.len == 0)) && (false || (q.len == 0)))) = true from by rw [hx0', hp0', hq0']; rfl]
            have HV := Lib.hid (show headS 4 zs zt x p.len q.len = true from by rw [headS_4, ht, he, hx0', hp0', hq0']; rfl)
            go_wp2_with fail
            go_ret
            exact ⟨ret_bool (HV.out.symm), L1⟩
          · have hq0' : (q.len == 0) = false := by simp [hq0]
            have Hq := Lib.hid hq0
            clear hq0
            go_wp2_with fail
            refine (sShape 4 zs zt x p q X cx P cp Q cq 2 false false _).mono ?_; rintro e w1 ⟨rfl, b1⟩
            have B1 := B.keep b1
            have p1 := B1.cell
            have L1 := bl_trans L0 b1
            rw [show ((x.len == 2) && ((false || (p.len == 0)) && (false || (q.len == 0)))) = false from by rw [hx0', hp0', hq0']; simp]
            have HV := Lib.hid (show headS 4 zs zt x p.len q.len = false from by rw [headS_4, ht, he, hx0', hp0', hq0']; simp)
            go_wp2_with fail
            go_ret
            exact ⟨ret_bool (HV.out.symm), L1⟩
        · have hp0' : (p.len == 0) = false := by simp [hp0]
          have Hp := Lib.hid hp0
          clear hp0
          go_wp2_with fail
          refine (sShape 4 zs zt x p q X cx P cp Q cq 2 false false _).mono ?_; rintro e w1 ⟨rfl, b1⟩
          have B1 := B.keep b1
          have p1 := B1.cell
          have L1 := bl_trans L0 b1
          rw [show ((x.len == 2) && ((false || (p.len == 0)) && (false || (q.len == 0)))) = false from by rw [hx0', hp0']; simp]
          have HV := Lib.hid (show headS 4 zs zt x p.len q.len = false from by rw [headS_4, ht, he, hx0', hp0']; simp)
          go_wp2_with fail
          go_ret
          exact ⟨ret_bool (HV.out.symm), L1⟩
      · have hx0' : (x.len == 2) = false := by simp [hx0]
        have Hx := Lib.hid hx0
        clear hx0
        go_wp2_with fail
        refine (sShape 4 zs zt x p q X cx P cp Q cq 2 false false _).mono ?_; rintro e w1 ⟨rfl, b1⟩
        have B1 := B.keep b1
        have p1 := B1.cell
        have L1 := bl_trans L0 b1
        rw [show ((x.len == 2) && ((false || (p.len == 0)) && (false || (q.len == 0)))) = false from by rw [hx0']; simp]
        have HV := Lib.hid (show headS 4 zs zt x p.len q.len = false from by rw [headS_4, ht, he, hx0']; simp)
        go_wp2_with fail
        go_ret
        exact ⟨ret_bool (HV.out.symm), L1⟩

set_option maxHeartbeats 4000000 in
theorem sHereS_5 (zs zt : ByteArray) (x : Fr (Int × Int × ByteArray)) (p q : St) (X : Option Addr) (cx : Nat) (P : Option Addr) (cp : Nat) (Q : Option Addr) (cq : Nat) (w : World) (hz : zs.size ≤ 1048576) (ht0 : zt.size ≤ 1048576) (hX : Sl exprC w 0 w.heap.size X x) :
    Calls Tryz.prog 48 #[.agg #[.int .i64 5, .string zs, .string zt, .slice X x.len cx, .slice P p.len cp, .slice Q q.len cq]] w fun e w' => e = .returned (.bool (headS 5 zs zt x p.len q.len)) ∧ Below w.heap.size w w' := by
  have _ := hz
  have _ := ht0
  have _ := hX
  have B := Blk.new w 40 #[.int .i64 5, .string zs, .string zt, .slice X x.len cx, .slice P p.len cp, .slice Q q.len cq]
  have L0 := bl_alloc (Below.refl w.heap.size w) (.cells #[.int .i64 5, .string zs, .string zt, .slice X x.len cx, .slice P p.len cp, .slice Q q.len cq] 40)
  go_enter Tryz.func48, Tryz.ntmps48
  cases ht : zt.toList.isEmpty
  · skip
    have HV := Lib.hid (show headS 5 zs zt x p.len q.len = false from by rw [headS_5, ht]; simp)
    go_wp2_with fail
    go_ret
    exact ⟨ret_bool (HV.out.symm), L0⟩
  · skip
    cases he : zs.toList.isEmpty
    · skip
      have HV := Lib.hid (show headS 5 zs zt x p.len q.len = false from by rw [headS_5, ht, he]; simp)
      go_wp2_with fail
      go_ret
      exact ⟨ret_bool (HV.out.symm), L0⟩
    · skip
      by_cases hx0 : x.len = 1
      · have hx0' : (x.len == 1) = true := by simp [hx0]
        have Hx := Lib.hid hx0
        clear hx0
        go_wp2_with fail
        refine (sShape 5 zs zt x p q X cx P cp Q cq 1 true true _).mono ?_; rintro e w1 ⟨rfl, b1⟩
        have B1 := B.keep b1
        have p1 := B1.cell
        have L1 := bl_trans L0 b1
        rw [show ((x.len == 1) && ((true || (p.len == 0)) && (true || (q.len == 0)))) = true from by rw [hx0']; rfl]
        have HV := Lib.hid (show headS 5 zs zt x p.len q.len = true from by rw [headS_5, ht, he, hx0']; rfl)
        go_wp2_with fail
        go_ret
        exact ⟨ret_bool (HV.out.symm), L1⟩
      · have hx0' : (x.len == 1) = false := by simp [hx0]
        have Hx := Lib.hid hx0
        clear hx0
        go_wp2_with fail
        refine (sShape 5 zs zt x p q X cx P cp Q cq 1 true true _).mono ?_; rintro e w1 ⟨rfl, b1⟩
        have B1 := B.keep b1
        have p1 := B1.cell
        have L1 := bl_trans L0 b1
        rw [show ((x.len == 1) && ((true || (p.len == 0)) && (true || (q.len == 0)))) = false from by rw [hx0']; simp]
        have HV := Lib.hid (show headS 5 zs zt x p.len q.len = false from by rw [headS_5, ht, he, hx0']; simp)
        go_wp2_with fail
        go_ret
        exact ⟨ret_bool (HV.out.symm), L1⟩

set_option maxHeartbeats 4000000 in
theorem sHereS_6 (zs zt : ByteArray) (x : Fr (Int × Int × ByteArray)) (p q : St) (X : Option Addr) (cx : Nat) (P : Option Addr) (cp : Nat) (Q : Option Addr) (cq : Nat) (w : World) (hz : zs.size ≤ 1048576) (ht0 : zt.size ≤ 1048576) (hX : Sl exprC w 0 w.heap.size X x) :
    Calls Tryz.prog 48 #[.agg #[.int .i64 6, .string zs, .string zt, .slice X x.len cx, .slice P p.len cp, .slice Q q.len cq]] w fun e w' => e = .returned (.bool (headS 6 zs zt x p.len q.len)) ∧ Below w.heap.size w w' := by
  have _ := hz
  have _ := ht0
  have _ := hX
  have B := Blk.new w 40 #[.int .i64 6, .string zs, .string zt, .slice X x.len cx, .slice P p.len cp, .slice Q q.len cq]
  have L0 := bl_alloc (Below.refl w.heap.size w) (.cells #[.int .i64 6, .string zs, .string zt, .slice X x.len cx, .slice P p.len cp, .slice Q q.len cq] 40)
  go_enter Tryz.func48, Tryz.ntmps48
  cases ht : zt.toList.isEmpty
  · skip
    have HV := Lib.hid (show headS 6 zs zt x p.len q.len = false from by rw [headS_6, ht]; simp)
    go_wp2_with fail
    go_ret
    exact ⟨ret_bool (HV.out.symm), L0⟩
  · skip
    cases he : zs.toList.isEmpty
    · skip
      have HV := Lib.hid (show headS 6 zs zt x p.len q.len = false from by rw [headS_6, ht, he]; simp)
      go_wp2_with fail
      go_ret
      exact ⟨ret_bool (HV.out.symm), L0⟩
    · skip
      by_cases hx0 : x.len = 1
      · have hx0' : (x.len == 1) = true := by simp [hx0]
        have Hx := Lib.hid hx0
        clear hx0
        by_cases hq0 : q.len = 0
        · have hq0' : (q.len == 0) = true := by simp [hq0]
          have Hq := Lib.hid hq0
          clear hq0
          go_wp2_with fail
          refine (sShape 6 zs zt x p q X cx P cp Q cq 1 true false _).mono ?_; rintro e w1 ⟨rfl, b1⟩
          have B1 := B.keep b1
          have p1 := B1.cell
          have L1 := bl_trans L0 b1
          rw [show ((x.len == 1) && ((true || (p.len == 0)) && (false || (q.len == 0)))) = true from by rw [hx0', hq0']; rfl]
          have HV := Lib.hid (show headS 6 zs zt x p.len q.len = true from by rw [headS_6, ht, he, hx0', hq0']; rfl)
          go_wp2_with fail
          go_ret
          exact ⟨ret_bool (HV.out.symm), L1⟩
        · have hq0' : (q.len == 0) = false := by simp [hq0]
          have Hq := Lib.hid hq0
          clear hq0
          go_wp2_with fail
          refine (sShape 6 zs zt x p q X cx P cp Q cq 1 true false _).mono ?_; rintro e w1 ⟨rfl, b1⟩
          have B1 := B.keep b1
          have p1 := B1.cell
          have L1 := bl_trans L0 b1
          rw [show ((x.len == 1) && ((true || (p.len == 0)) && (false || (q.len == 0)))) = false from by rw [hx0', hq0']; simp]
          have HV := Lib.hid (show headS 6 zs zt x p.len q.len = false from by rw [headS_6, ht, he, hx0', hq0']; simp)
          go_wp2_with fail
          go_ret
          exact ⟨ret_bool (HV.out.symm), L1⟩
      · have hx0' : (x.len == 1) = false := by simp [hx0]
        have Hx := Lib.hid hx0
        clear hx0
        go_wp2_with fail
        refine (sShape 6 zs zt x p q X cx P cp Q cq 1 true false _).mono ?_; rintro e w1 ⟨rfl, b1⟩
        have B1 := B.keep b1
        have p1 := B1.cell
        have L1 := bl_trans L0 b1
        rw [show ((x.len == 1) && ((true || (p.len == 0)) && (false || (q.len == 0)))) = false from by rw [hx0']; simp]
        have HV := Lib.hid (show headS 6 zs zt x p.len q.len = false from by rw [headS_6, ht, he, hx0']; simp)
        go_wp2_with fail
        go_ret
        exact ⟨ret_bool (HV.out.symm), L1⟩

set_option maxHeartbeats 4000000 in
theorem sHereS_7 (zs zt : ByteArray) (x : Fr (Int × Int × ByteArray)) (p q : St) (X : Option Addr) (cx : Nat) (P : Option Addr) (cp : Nat) (Q : Option Addr) (cq : Nat) (w : World) (hz : zs.size ≤ 1048576) (ht0 : zt.size ≤ 1048576) (hX : Sl exprC w 0 w.heap.size X x) :
    Calls Tryz.prog 48 #[.agg #[.int .i64 7, .string zs, .string zt, .slice X x.len cx, .slice P p.len cp, .slice Q q.len cq]] w fun e w' => e = .returned (.bool (headS 7 zs zt x p.len q.len)) ∧ Below w.heap.size w w' := by
  have _ := hz
  have _ := ht0
  have _ := hX
  have B := Blk.new w 40 #[.int .i64 7, .string zs, .string zt, .slice X x.len cx, .slice P p.len cp, .slice Q q.len cq]
  have L0 := bl_alloc (Below.refl w.heap.size w) (.cells #[.int .i64 7, .string zs, .string zt, .slice X x.len cx, .slice P p.len cp, .slice Q q.len cq] 40)
  go_enter Tryz.func48, Tryz.ntmps48
  have c1 := fun w => sNameOk zs w (by omega)
  obtain ⟨q1, hb1⟩ : ∃ q, nameOkB zs = q := ⟨_, rfl⟩
  rw [hb1] at c1
  have C1 := Lib.hid c1
  clear c1
  go_wp2_with fail
  refine (C1.out _).mono ?_; rintro e w1 ⟨rfl, b1⟩
  have L1 := bl_trans L0 b1
  have B1 := B.keep b1
  have p1 := B1.cell
  cases q1
  · skip
    have HV := Lib.hid (show headS 7 zs zt x p.len q.len = false from by rw [headS_7, hb1]; simp)
    go_wp2_with fail
    go_ret
    exact ⟨ret_bool (HV.out.symm), L1⟩
  · skip
    have c2 := fun w => sNameOk zt w (by omega)
    obtain ⟨q2, hb2⟩ : ∃ q, nameOkB zt = q := ⟨_, rfl⟩
    rw [hb2] at c2
    have C2 := Lib.hid c2
    clear c2
    go_wp2_with fail
    refine (C2.out _).mono ?_; rintro e w2 ⟨rfl, b2⟩
    have L2 := bl_trans L1 b2
    have B2 := B1.keep b2
    have p2 := B2.cell
    cases q2
    · skip
      have HV := Lib.hid (show headS 7 zs zt x p.len q.len = false from by rw [headS_7, hb1, hb2]; simp)
      go_wp2_with fail
      go_ret
      exact ⟨ret_bool (HV.out.symm), L2⟩
    · skip
      by_cases hx0 : x.len = 0
      · have hx0' : (x.len == 0) = true := by simp [hx0]
        have Hx := Lib.hid hx0
        clear hx0
        by_cases hq0 : q.len = 0
        · have hq0' : (q.len == 0) = true := by simp [hq0]
          have Hq := Lib.hid hq0
          clear hq0
          go_wp2_with fail
          refine (sShape 7 zs zt x p q X cx P cp Q cq 0 true false _).mono ?_; rintro e w3 ⟨rfl, b3⟩
          have B3 := B2.keep b3
          have p3 := B3.cell
          have L3 := bl_trans L2 b3
          rw [show ((x.len == 0) && ((true || (p.len == 0)) && (false || (q.len == 0)))) = true from by rw [hx0', hq0']; rfl]
          have HV := Lib.hid (show headS 7 zs zt x p.len q.len = true from by rw [headS_7, hb1, hb2, hx0', hq0']; rfl)
          go_wp2_with fail
          go_ret
          exact ⟨ret_bool (HV.out.symm), L3⟩
        · have hq0' : (q.len == 0) = false := by simp [hq0]
          have Hq := Lib.hid hq0
          clear hq0
          go_wp2_with fail
          refine (sShape 7 zs zt x p q X cx P cp Q cq 0 true false _).mono ?_; rintro e w3 ⟨rfl, b3⟩
          have B3 := B2.keep b3
          have p3 := B3.cell
          have L3 := bl_trans L2 b3
          rw [show ((x.len == 0) && ((true || (p.len == 0)) && (false || (q.len == 0)))) = false from by rw [hx0', hq0']; simp]
          have HV := Lib.hid (show headS 7 zs zt x p.len q.len = false from by rw [headS_7, hb1, hb2, hx0', hq0']; simp)
          go_wp2_with fail
          go_ret
          exact ⟨ret_bool (HV.out.symm), L3⟩
      · have hx0' : (x.len == 0) = false := by simp [hx0]
        have Hx := Lib.hid hx0
        clear hx0
        go_wp2_with fail
        refine (sShape 7 zs zt x p q X cx P cp Q cq 0 true false _).mono ?_; rintro e w3 ⟨rfl, b3⟩
        have B3 := B2.keep b3
        have p3 := B3.cell
        have L3 := bl_trans L2 b3
        rw [show ((x.len == 0) && ((true || (p.len == 0)) && (false || (q.len == 0)))) = false from by rw [hx0']; simp]
        have HV := Lib.hid (show headS 7 zs zt x p.len q.len = false from by rw [headS_7, hb1, hb2, hx0']; simp)
        go_wp2_with fail
        go_ret
        exact ⟨ret_bool (HV.out.symm), L3⟩

set_option maxHeartbeats 4000000 in
theorem sHereS_8 (zs zt : ByteArray) (x : Fr (Int × Int × ByteArray)) (p q : St) (X : Option Addr) (cx : Nat) (P : Option Addr) (cp : Nat) (Q : Option Addr) (cq : Nat) (w : World) (hz : zs.size ≤ 1048576) (ht0 : zt.size ≤ 1048576) (hX : Sl exprC w 0 w.heap.size X x) :
    Calls Tryz.prog 48 #[.agg #[.int .i64 8, .string zs, .string zt, .slice X x.len cx, .slice P p.len cp, .slice Q q.len cq]] w fun e w' => e = .returned (.bool (headS 8 zs zt x p.len q.len)) ∧ Below w.heap.size w w' := by
  have _ := hz
  have _ := ht0
  have _ := hX
  have B := Blk.new w 40 #[.int .i64 8, .string zs, .string zt, .slice X x.len cx, .slice P p.len cp, .slice Q q.len cq]
  have L0 := bl_alloc (Below.refl w.heap.size w) (.cells #[.int .i64 8, .string zs, .string zt, .slice X x.len cx, .slice P p.len cp, .slice Q q.len cq] 40)
  go_enter Tryz.func48, Tryz.ntmps48
  cases ht : zt.toList.isEmpty
  · skip
    have HV := Lib.hid (show headS 8 zs zt x p.len q.len = false from by rw [headS_8, ht]; simp)
    go_wp2_with fail
    go_ret
    exact ⟨ret_bool (HV.out.symm), L0⟩
  · skip
    cases he : zs.toList.isEmpty
    · skip
      have HV := Lib.hid (show headS 8 zs zt x p.len q.len = false from by rw [headS_8, ht, he]; simp)
      go_wp2_with fail
      go_ret
      exact ⟨ret_bool (HV.out.symm), L0⟩
    · skip
      by_cases hx0 : x.len = 0
      · have hx0' : (x.len == 0) = true := by simp [hx0]
        have Hx := Lib.hid hx0
        clear hx0
        by_cases hp0 : p.len = 0
        · have hp0' : (p.len == 0) = true := by simp [hp0]
          have Hp := Lib.hid hp0
          clear hp0
          by_cases hq0 : q.len = 0
          · have hq0' : (q.len == 0) = true := by simp [hq0]
            have Hq := Lib.hid hq0
            clear hq0
            go_wp2_with fail
            refine (sShape 8 zs zt x p q X cx P cp Q cq 0 false false _).mono ?_; rintro e w1 ⟨rfl, b1⟩
            have B1 := B.keep b1
            have p1 := B1.cell
            have L1 := bl_trans L0 b1
            rw [show ((x.len == 0) && ((false || (p.len == 0)) && (false || (q.len == 0)))) = true from by rw [hx0', hp0', hq0']; rfl]
            have HV := Lib.hid (show headS 8 zs zt x p.len q.len = true from by rw [headS_8, ht, he, hx0', hp0', hq0']; rfl)
            go_wp2_with fail
            go_ret
            exact ⟨ret_bool (HV.out.symm), L1⟩
          · have hq0' : (q.len == 0) = false := by simp [hq0]
            have Hq := Lib.hid hq0
            clear hq0
            go_wp2_with fail
            refine (sShape 8 zs zt x p q X cx P cp Q cq 0 false false _).mono ?_; rintro e w1 ⟨rfl, b1⟩
            have B1 := B.keep b1
            have p1 := B1.cell
            have L1 := bl_trans L0 b1
            rw [show ((x.len == 0) && ((false || (p.len == 0)) && (false || (q.len == 0)))) = false from by rw [hx0', hp0', hq0']; simp]
            have HV := Lib.hid (show headS 8 zs zt x p.len q.len = false from by rw [headS_8, ht, he, hx0', hp0', hq0']; simp)
            go_wp2_with fail
            go_ret
            exact ⟨ret_bool (HV.out.symm), L1⟩
        · have hp0' : (p.len == 0) = false := by simp [hp0]
          have Hp := Lib.hid hp0
          clear hp0
          go_wp2_with fail
          refine (sShape 8 zs zt x p q X cx P cp Q cq 0 false false _).mono ?_; rintro e w1 ⟨rfl, b1⟩
          have B1 := B.keep b1
          have p1 := B1.cell
          have L1 := bl_trans L0 b1
          rw [show ((x.len == 0) && ((false || (p.len == 0)) && (false || (q.len == 0)))) = false from by rw [hx0', hp0']; simp]
          have HV := Lib.hid (show headS 8 zs zt x p.len q.len = false from by rw [headS_8, ht, he, hx0', hp0']; simp)
          go_wp2_with fail
          go_ret
          exact ⟨ret_bool (HV.out.symm), L1⟩
      · have hx0' : (x.len == 0) = false := by simp [hx0]
        have Hx := Lib.hid hx0
        clear hx0
        go_wp2_with fail
        refine (sShape 8 zs zt x p q X cx P cp Q cq 0 false false _).mono ?_; rintro e w1 ⟨rfl, b1⟩
        have B1 := B.keep b1
        have p1 := B1.cell
        have L1 := bl_trans L0 b1
        rw [show ((x.len == 0) && ((false || (p.len == 0)) && (false || (q.len == 0)))) = false from by rw [hx0']; simp]
        have HV := Lib.hid (show headS 8 zs zt x p.len q.len = false from by rw [headS_8, ht, he, hx0']; simp)
        go_wp2_with fail
        go_ret
        exact ⟨ret_bool (HV.out.symm), L1⟩

set_option maxHeartbeats 4000000 in
theorem sHereS_9 (zs zt : ByteArray) (x : Fr (Int × Int × ByteArray)) (p q : St) (X : Option Addr) (cx : Nat) (P : Option Addr) (cp : Nat) (Q : Option Addr) (cq : Nat) (w : World) (hz : zs.size ≤ 1048576) (ht0 : zt.size ≤ 1048576) (hX : Sl exprC w 0 w.heap.size X x) :
    Calls Tryz.prog 48 #[.agg #[.int .i64 9, .string zs, .string zt, .slice X x.len cx, .slice P p.len cp, .slice Q q.len cq]] w fun e w' => e = .returned (.bool (headS 9 zs zt x p.len q.len)) ∧ Below w.heap.size w w' := by
  have _ := hz
  have _ := ht0
  have _ := hX
  have B := Blk.new w 40 #[.int .i64 9, .string zs, .string zt, .slice X x.len cx, .slice P p.len cp, .slice Q q.len cq]
  have L0 := bl_alloc (Below.refl w.heap.size w) (.cells #[.int .i64 9, .string zs, .string zt, .slice X x.len cx, .slice P p.len cp, .slice Q q.len cq] 40)
  go_enter Tryz.func48, Tryz.ntmps48
  cases ht : zt.toList.isEmpty
  · skip
    have HV := Lib.hid (show headS 9 zs zt x p.len q.len = false from by rw [headS_9, ht]; simp)
    go_wp2_with fail
    go_ret
    exact ⟨ret_bool (HV.out.symm), L0⟩
  · skip
    cases he : zs.toList.isEmpty
    · skip
      have HV := Lib.hid (show headS 9 zs zt x p.len q.len = false from by rw [headS_9, ht, he]; simp)
      go_wp2_with fail
      go_ret
      exact ⟨ret_bool (HV.out.symm), L0⟩
    · skip
      by_cases hx0 : x.len = 1
      · have hx0' : (x.len == 1) = true := by simp [hx0]
        have Hx := Lib.hid hx0
        clear hx0
        by_cases hp0 : p.len = 0
        · have hp0' : (p.len == 0) = true := by simp [hp0]
          have Hp := Lib.hid hp0
          clear hp0
          by_cases hq0 : q.len = 0
          · have hq0' : (q.len == 0) = true := by simp [hq0]
            have Hq := Lib.hid hq0
            clear hq0
            go_wp2_with fail
            refine (sShape 9 zs zt x p q X cx P cp Q cq 1 false false _).mono ?_; rintro e w1 ⟨rfl, b1⟩
            have B1 := B.keep b1
            have p1 := B1.cell
            have L1 := bl_trans L0 b1
            rw [show ((x.len == 1) && ((false || (p.len == 0)) && (false || (q.len == 0)))) = true from by rw [hx0', hp0', hq0']; rfl]
            have HV := Lib.hid (show headS 9 zs zt x p.len q.len = true from by rw [headS_9, ht, he, hx0', hp0', hq0']; rfl)
            go_wp2_with fail
            go_ret
            exact ⟨ret_bool (HV.out.symm), L1⟩
          · have hq0' : (q.len == 0) = false := by simp [hq0]
            have Hq := Lib.hid hq0
            clear hq0
            go_wp2_with fail
            refine (sShape 9 zs zt x p q X cx P cp Q cq 1 false false _).mono ?_; rintro e w1 ⟨rfl, b1⟩
            have B1 := B.keep b1
            have p1 := B1.cell
            have L1 := bl_trans L0 b1
            rw [show ((x.len == 1) && ((false || (p.len == 0)) && (false || (q.len == 0)))) = false from by rw [hx0', hp0', hq0']; simp]
            have HV := Lib.hid (show headS 9 zs zt x p.len q.len = false from by rw [headS_9, ht, he, hx0', hp0', hq0']; simp)
            go_wp2_with fail
            go_ret
            exact ⟨ret_bool (HV.out.symm), L1⟩
        · have hp0' : (p.len == 0) = false := by simp [hp0]
          have Hp := Lib.hid hp0
          clear hp0
          go_wp2_with fail
          refine (sShape 9 zs zt x p q X cx P cp Q cq 1 false false _).mono ?_; rintro e w1 ⟨rfl, b1⟩
          have B1 := B.keep b1
          have p1 := B1.cell
          have L1 := bl_trans L0 b1
          rw [show ((x.len == 1) && ((false || (p.len == 0)) && (false || (q.len == 0)))) = false from by rw [hx0', hp0']; simp]
          have HV := Lib.hid (show headS 9 zs zt x p.len q.len = false from by rw [headS_9, ht, he, hx0', hp0']; simp)
          go_wp2_with fail
          go_ret
          exact ⟨ret_bool (HV.out.symm), L1⟩
      · have hx0' : (x.len == 1) = false := by simp [hx0]
        have Hx := Lib.hid hx0
        clear hx0
        go_wp2_with fail
        refine (sShape 9 zs zt x p q X cx P cp Q cq 1 false false _).mono ?_; rintro e w1 ⟨rfl, b1⟩
        have B1 := B.keep b1
        have p1 := B1.cell
        have L1 := bl_trans L0 b1
        rw [show ((x.len == 1) && ((false || (p.len == 0)) && (false || (q.len == 0)))) = false from by rw [hx0']; simp]
        have HV := Lib.hid (show headS 9 zs zt x p.len q.len = false from by rw [headS_9, ht, he, hx0']; simp)
        go_wp2_with fail
        go_ret
        exact ⟨ret_bool (HV.out.symm), L1⟩

set_option maxHeartbeats 4000000 in
theorem sHereS_10 (zs zt : ByteArray) (x : Fr (Int × Int × ByteArray)) (p q : St) (X : Option Addr) (cx : Nat) (P : Option Addr) (cp : Nat) (Q : Option Addr) (cq : Nat) (w : World) (hz : zs.size ≤ 1048576) (ht0 : zt.size ≤ 1048576) (hX : Sl exprC w 0 w.heap.size X x) :
    Calls Tryz.prog 48 #[.agg #[.int .i64 10, .string zs, .string zt, .slice X x.len cx, .slice P p.len cp, .slice Q q.len cq]] w fun e w' => e = .returned (.bool (headS 10 zs zt x p.len q.len)) ∧ Below w.heap.size w w' := by
  have _ := hz
  have _ := ht0
  have _ := hX
  have B := Blk.new w 40 #[.int .i64 10, .string zs, .string zt, .slice X x.len cx, .slice P p.len cp, .slice Q q.len cq]
  have L0 := bl_alloc (Below.refl w.heap.size w) (.cells #[.int .i64 10, .string zs, .string zt, .slice X x.len cx, .slice P p.len cp, .slice Q q.len cq] 40)
  go_enter Tryz.func48, Tryz.ntmps48
  cases ht : zt.toList.isEmpty
  · skip
    have HV := Lib.hid (show headS 10 zs zt x p.len q.len = false from by rw [headS_10, ht]; simp)
    go_wp2_with fail
    go_ret
    exact ⟨ret_bool (HV.out.symm), L0⟩
  · skip
    cases he : zs.toList.isEmpty
    · skip
      have HV := Lib.hid (show headS 10 zs zt x p.len q.len = false from by rw [headS_10, ht, he]; simp)
      go_wp2_with fail
      go_ret
      exact ⟨ret_bool (HV.out.symm), L0⟩
    · skip
      by_cases hx0 : x.len = 1
      · have hx0' : (x.len == 1) = true := by simp [hx0]
        have Hx := Lib.hid hx0
        clear hx0
        by_cases hp0 : p.len = 0
        · have hp0' : (p.len == 0) = true := by simp [hp0]
          have Hp := Lib.hid hp0
          clear hp0
          by_cases hq0 : q.len = 0
          · have hq0' : (q.len == 0) = true := by simp [hq0]
            have Hq := Lib.hid hq0
            clear hq0
            go_wp2_with fail
            refine (sShape 10 zs zt x p q X cx P cp Q cq 1 false false _).mono ?_; rintro e w1 ⟨rfl, b1⟩
            have B1 := B.keep b1
            have p1 := B1.cell
            have L1 := bl_trans L0 b1
            rw [show ((x.len == 1) && ((false || (p.len == 0)) && (false || (q.len == 0)))) = true from by rw [hx0', hp0', hq0']; rfl]
            have HV := Lib.hid (show headS 10 zs zt x p.len q.len = true from by rw [headS_10, ht, he, hx0', hp0', hq0']; rfl)
            go_wp2_with fail
            go_ret
            exact ⟨ret_bool (HV.out.symm), L1⟩
          · have hq0' : (q.len == 0) = false := by simp [hq0]
            have Hq := Lib.hid hq0
            clear hq0
            go_wp2_with fail
            refine (sShape 10 zs zt x p q X cx P cp Q cq 1 false false _).mono ?_; rintro e w1 ⟨rfl, b1⟩
            have B1 := B.keep b1
            have p1 := B1.cell
            have L1 := bl_trans L0 b1
            rw [show ((x.len == 1) && ((false || (p.len == 0)) && (false || (q.len == 0)))) = false from by rw [hx0', hp0', hq0']; simp]
            have HV := Lib.hid (show headS 10 zs zt x p.len q.len = false from by rw [headS_10, ht, he, hx0', hp0', hq0']; simp)
            go_wp2_with fail
            go_ret
            exact ⟨ret_bool (HV.out.symm), L1⟩
        · have hp0' : (p.len == 0) = false := by simp [hp0]
          have Hp := Lib.hid hp0
          clear hp0
          go_wp2_with fail
          refine (sShape 10 zs zt x p q X cx P cp Q cq 1 false false _).mono ?_; rintro e w1 ⟨rfl, b1⟩
          have B1 := B.keep b1
          have p1 := B1.cell
          have L1 := bl_trans L0 b1
          rw [show ((x.len == 1) && ((false || (p.len == 0)) && (false || (q.len == 0)))) = false from by rw [hx0', hp0']; simp]
          have HV := Lib.hid (show headS 10 zs zt x p.len q.len = false from by rw [headS_10, ht, he, hx0', hp0']; simp)
          go_wp2_with fail
          go_ret
          exact ⟨ret_bool (HV.out.symm), L1⟩
      · have hx0' : (x.len == 1) = false := by simp [hx0]
        have Hx := Lib.hid hx0
        clear hx0
        go_wp2_with fail
        refine (sShape 10 zs zt x p q X cx P cp Q cq 1 false false _).mono ?_; rintro e w1 ⟨rfl, b1⟩
        have B1 := B.keep b1
        have p1 := B1.cell
        have L1 := bl_trans L0 b1
        rw [show ((x.len == 1) && ((false || (p.len == 0)) && (false || (q.len == 0)))) = false from by rw [hx0']; simp]
        have HV := Lib.hid (show headS 10 zs zt x p.len q.len = false from by rw [headS_10, ht, he, hx0']; simp)
        go_wp2_with fail
        go_ret
        exact ⟨ret_bool (HV.out.symm), L1⟩

set_option maxHeartbeats 4000000 in
theorem sHereS_11 (zs zt : ByteArray) (x : Fr (Int × Int × ByteArray)) (p q : St) (X : Option Addr) (cx : Nat) (P : Option Addr) (cp : Nat) (Q : Option Addr) (cq : Nat) (w : World) (hz : zs.size ≤ 1048576) (ht0 : zt.size ≤ 1048576) (hX : Sl exprC w 0 w.heap.size X x) :
    Calls Tryz.prog 48 #[.agg #[.int .i64 11, .string zs, .string zt, .slice X x.len cx, .slice P p.len cp, .slice Q q.len cq]] w fun e w' => e = .returned (.bool (headS 11 zs zt x p.len q.len)) ∧ Below w.heap.size w w' := by
  have _ := hz
  have _ := ht0
  have _ := hX
  have B := Blk.new w 40 #[.int .i64 11, .string zs, .string zt, .slice X x.len cx, .slice P p.len cp, .slice Q q.len cq]
  have L0 := bl_alloc (Below.refl w.heap.size w) (.cells #[.int .i64 11, .string zs, .string zt, .slice X x.len cx, .slice P p.len cp, .slice Q q.len cq] 40)
  go_enter Tryz.func48, Tryz.ntmps48
  cases ht : zt.toList.isEmpty
  · skip
    have HV := Lib.hid (show headS 11 zs zt x p.len q.len = false from by rw [headS_11, ht]; simp)
    go_wp2_with fail
    go_ret
    exact ⟨ret_bool (HV.out.symm), L0⟩
  · skip
    have c1 := fun w => sNameOk zs w (by omega)
    obtain ⟨q1, hb1⟩ : ∃ q, nameOkB zs = q := ⟨_, rfl⟩
    rw [hb1] at c1
    have C1 := Lib.hid c1
    clear c1
    go_wp2_with fail
    refine (C1.out _).mono ?_; rintro e w1 ⟨rfl, b1⟩
    have L1 := bl_trans L0 b1
    have B1 := B.keep b1
    have p1 := B1.cell
    cases q1
    · skip
      have HV := Lib.hid (show headS 11 zs zt x p.len q.len = false from by rw [headS_11, ht, hb1]; simp)
      go_wp2_with fail
      go_ret
      exact ⟨ret_bool (HV.out.symm), L1⟩
    · skip
      by_cases hx0 : x.len = 1
      · have hx0' : (x.len == 1) = true := by simp [hx0]
        have Hx := Lib.hid hx0
        clear hx0
        by_cases hp0 : p.len = 0
        · have hp0' : (p.len == 0) = true := by simp [hp0]
          have Hp := Lib.hid hp0
          clear hp0
          by_cases hq0 : q.len = 0
          · have hq0' : (q.len == 0) = true := by simp [hq0]
            have Hq := Lib.hid hq0
            clear hq0
            go_wp2_with fail
            refine (sShape 11 zs zt x p q X cx P cp Q cq 1 false false _).mono ?_; rintro e w2 ⟨rfl, b2⟩
            have B2 := B1.keep b2
            have p2 := B2.cell
            have L2 := bl_trans L1 b2
            rw [show ((x.len == 1) && ((false || (p.len == 0)) && (false || (q.len == 0)))) = true from by rw [hx0', hp0', hq0']; rfl]
            have HV := Lib.hid (show headS 11 zs zt x p.len q.len = true from by rw [headS_11, ht, hb1, hx0', hp0', hq0']; rfl)
            go_wp2_with fail
            go_ret
            exact ⟨ret_bool (HV.out.symm), L2⟩
          · have hq0' : (q.len == 0) = false := by simp [hq0]
            have Hq := Lib.hid hq0
            clear hq0
            go_wp2_with fail
            refine (sShape 11 zs zt x p q X cx P cp Q cq 1 false false _).mono ?_; rintro e w2 ⟨rfl, b2⟩
            have B2 := B1.keep b2
            have p2 := B2.cell
            have L2 := bl_trans L1 b2
            rw [show ((x.len == 1) && ((false || (p.len == 0)) && (false || (q.len == 0)))) = false from by rw [hx0', hp0', hq0']; simp]
            have HV := Lib.hid (show headS 11 zs zt x p.len q.len = false from by rw [headS_11, ht, hb1, hx0', hp0', hq0']; simp)
            go_wp2_with fail
            go_ret
            exact ⟨ret_bool (HV.out.symm), L2⟩
        · have hp0' : (p.len == 0) = false := by simp [hp0]
          have Hp := Lib.hid hp0
          clear hp0
          go_wp2_with fail
          refine (sShape 11 zs zt x p q X cx P cp Q cq 1 false false _).mono ?_; rintro e w2 ⟨rfl, b2⟩
          have B2 := B1.keep b2
          have p2 := B2.cell
          have L2 := bl_trans L1 b2
          rw [show ((x.len == 1) && ((false || (p.len == 0)) && (false || (q.len == 0)))) = false from by rw [hx0', hp0']; simp]
          have HV := Lib.hid (show headS 11 zs zt x p.len q.len = false from by rw [headS_11, ht, hb1, hx0', hp0']; simp)
          go_wp2_with fail
          go_ret
          exact ⟨ret_bool (HV.out.symm), L2⟩
      · have hx0' : (x.len == 1) = false := by simp [hx0]
        have Hx := Lib.hid hx0
        clear hx0
        go_wp2_with fail
        refine (sShape 11 zs zt x p q X cx P cp Q cq 1 false false _).mono ?_; rintro e w2 ⟨rfl, b2⟩
        have B2 := B1.keep b2
        have p2 := B2.cell
        have L2 := bl_trans L1 b2
        rw [show ((x.len == 1) && ((false || (p.len == 0)) && (false || (q.len == 0)))) = false from by rw [hx0']; simp]
        have HV := Lib.hid (show headS 11 zs zt x p.len q.len = false from by rw [headS_11, ht, hb1, hx0']; simp)
        go_wp2_with fail
        go_ret
        exact ⟨ret_bool (HV.out.symm), L2⟩

set_option maxHeartbeats 4000000 in
theorem sHereS_12 (zs zt : ByteArray) (x : Fr (Int × Int × ByteArray)) (p q : St) (X : Option Addr) (cx : Nat) (P : Option Addr) (cp : Nat) (Q : Option Addr) (cq : Nat) (w : World) (hz : zs.size ≤ 1048576) (ht0 : zt.size ≤ 1048576) (hX : Sl exprC w 0 w.heap.size X x) :
    Calls Tryz.prog 48 #[.agg #[.int .i64 12, .string zs, .string zt, .slice X x.len cx, .slice P p.len cp, .slice Q q.len cq]] w fun e w' => e = .returned (.bool (headS 12 zs zt x p.len q.len)) ∧ Below w.heap.size w w' := by
  have _ := hz
  have _ := ht0
  have _ := hX
  have B := Blk.new w 40 #[.int .i64 12, .string zs, .string zt, .slice X x.len cx, .slice P p.len cp, .slice Q q.len cq]
  have L0 := bl_alloc (Below.refl w.heap.size w) (.cells #[.int .i64 12, .string zs, .string zt, .slice X x.len cx, .slice P p.len cp, .slice Q q.len cq] 40)
  go_enter Tryz.func48, Tryz.ntmps48
  cases ht : zt.toList.isEmpty
  · skip
    have HV := Lib.hid (show headS 12 zs zt x p.len q.len = false from by rw [headS_12, ht]; simp)
    go_wp2_with fail
    go_ret
    exact ⟨ret_bool (HV.out.symm), L0⟩
  · skip
    cases he : zs.toList.isEmpty
    · skip
      have HV := Lib.hid (show headS 12 zs zt x p.len q.len = false from by rw [headS_12, ht, he]; simp)
      go_wp2_with fail
      go_ret
      exact ⟨ret_bool (HV.out.symm), L0⟩
    · skip
      by_cases hx0 : x.len = 1
      · have hx0' : (x.len == 1) = true := by simp [hx0]
        have Hx := Lib.hid hx0
        clear hx0
        by_cases hp0 : p.len = 0
        · have hp0' : (p.len == 0) = true := by simp [hp0]
          have Hp := Lib.hid hp0
          clear hp0
          by_cases hq0 : q.len = 0
          · have hq0' : (q.len == 0) = true := by simp [hq0]
            have Hq := Lib.hid hq0
            clear hq0
            go_wp2_with fail
            refine (sShape 12 zs zt x p q X cx P cp Q cq 1 false false _).mono ?_; rintro e w1 ⟨rfl, b1⟩
            have B1 := B.keep b1
            have p1 := B1.cell
            have L1 := bl_trans L0 b1
            rw [show ((x.len == 1) && ((false || (p.len == 0)) && (false || (q.len == 0)))) = true from by rw [hx0', hp0', hq0']; rfl]
            obtain ⟨b, o, a, k1, A1, c1, hAe, hb, hdr, _, _, e0, e1, e2, e3⟩ := at_Expr ((hX).below L1 (Nat.le_refl _)) (i := 0) (by have := Hx.out; omega)
            subst hAe
            rw [Fr.drop_zero] at hdr
            have hcf : callF x = (a.1 == 11) := by rw [hdr]; rfl
            have hl1 : (0 : Int) < (x.len : Int) := by have := Hx.out; omega
            simp only [Nat.zero_mul, Nat.add_zero] at e0 e1 e2 e3
            clear hdr
            cases h11 : (a.1 == 11)
            · skip
              have HV := Lib.hid (show headS 12 zs zt x p.len q.len = false from by rw [headS_12, ht, he, hx0', hp0', hq0', hcf, h11]; simp)
              go_wp2_with fail
              go_ret
              exact ⟨ret_bool (HV.out.symm), L1⟩
            · skip
              have HV := Lib.hid (show headS 12 zs zt x p.len q.len = true from by rw [headS_12, ht, he, hx0', hp0', hq0', hcf, h11]; rfl)
              go_wp2_with fail
              go_ret
              exact ⟨ret_bool (HV.out.symm), L1⟩
          · have hq0' : (q.len == 0) = false := by simp [hq0]
            have Hq := Lib.hid hq0
            clear hq0
            go_wp2_with fail
            refine (sShape 12 zs zt x p q X cx P cp Q cq 1 false false _).mono ?_; rintro e w1 ⟨rfl, b1⟩
            have B1 := B.keep b1
            have p1 := B1.cell
            have L1 := bl_trans L0 b1
            rw [show ((x.len == 1) && ((false || (p.len == 0)) && (false || (q.len == 0)))) = false from by rw [hx0', hp0', hq0']; simp]
            have HV := Lib.hid (show headS 12 zs zt x p.len q.len = false from by rw [headS_12, ht, he, hx0', hp0', hq0']; simp)
            go_wp2_with fail
            go_ret
            exact ⟨ret_bool (HV.out.symm), L1⟩
        · have hp0' : (p.len == 0) = false := by simp [hp0]
          have Hp := Lib.hid hp0
          clear hp0
          go_wp2_with fail
          refine (sShape 12 zs zt x p q X cx P cp Q cq 1 false false _).mono ?_; rintro e w1 ⟨rfl, b1⟩
          have B1 := B.keep b1
          have p1 := B1.cell
          have L1 := bl_trans L0 b1
          rw [show ((x.len == 1) && ((false || (p.len == 0)) && (false || (q.len == 0)))) = false from by rw [hx0', hp0']; simp]
          have HV := Lib.hid (show headS 12 zs zt x p.len q.len = false from by rw [headS_12, ht, he, hx0', hp0']; simp)
          go_wp2_with fail
          go_ret
          exact ⟨ret_bool (HV.out.symm), L1⟩
      · have hx0' : (x.len == 1) = false := by simp [hx0]
        have Hx := Lib.hid hx0
        clear hx0
        go_wp2_with fail
        refine (sShape 12 zs zt x p q X cx P cp Q cq 1 false false _).mono ?_; rintro e w1 ⟨rfl, b1⟩
        have B1 := B.keep b1
        have p1 := B1.cell
        have L1 := bl_trans L0 b1
        rw [show ((x.len == 1) && ((false || (p.len == 0)) && (false || (q.len == 0)))) = false from by rw [hx0']; simp]
        have HV := Lib.hid (show headS 12 zs zt x p.len q.len = false from by rw [headS_12, ht, he, hx0']; simp)
        go_wp2_with fail
        go_ret
        exact ⟨ret_bool (HV.out.symm), L1⟩

set_option maxHeartbeats 4000000 in
theorem sHereS (zk : Int) (zs zt : ByteArray) (x : Fr (Int × Int × ByteArray)) (p q : St) (X : Option Addr) (cx : Nat) (P : Option Addr) (cp : Nat) (Q : Option Addr) (cq : Nat) (w : World) (hz : zs.size ≤ 1048576) (ht0 : zt.size ≤ 1048576) (hX : Sl exprC w 0 w.heap.size X x) :
    Calls Tryz.prog 48 #[.agg #[.int .i64 zk, .string zs, .string zt, .slice X x.len cx, .slice P p.len cp, .slice Q q.len cq]] w fun e w' => e = .returned (.bool (headS zk zs zt x p.len q.len)) ∧ Below w.heap.size w w' := by
  have L0 := bl_alloc (Below.refl w.heap.size w) (.cells #[.int .i64 zk, .string zs, .string zt, .slice X x.len cx, .slice P p.len cp, .slice Q q.len cq] 40)
  by_cases n1 : zk = 1
  · subst n1; exact sHereS_1 zs zt x p q X cx P cp Q cq w hz ht0 hX
  have m1 : (zk == 1) = false := by simp [n1]
  by_cases n2 : zk = 2
  · subst n2; exact sHereS_2 zs zt x p q X cx P cp Q cq w hz ht0 hX
  have m2 : (zk == 2) = false := by simp [n2]
  by_cases n3 : zk = 3
  · subst n3; exact sHereS_3 zs zt x p q X cx P cp Q cq w hz ht0 hX
  have m3 : (zk == 3) = false := by simp [n3]
  by_cases n4 : zk = 4
  · subst n4; exact sHereS_4 zs zt x p q X cx P cp Q cq w hz ht0 hX
  have m4 : (zk == 4) = false := by simp [n4]
  by_cases n5 : zk = 5
  · subst n5; exact sHereS_5 zs zt x p q X cx P cp Q cq w hz ht0 hX
  have m5 : (zk == 5) = false := by simp [n5]
  by_cases n6 : zk = 6
  · subst n6; exact sHereS_6 zs zt x p q X cx P cp Q cq w hz ht0 hX
  have m6 : (zk == 6) = false := by simp [n6]
  by_cases n7 : zk = 7
  · subst n7; exact sHereS_7 zs zt x p q X cx P cp Q cq w hz ht0 hX
  have m7 : (zk == 7) = false := by simp [n7]
  by_cases n8 : zk = 8
  · subst n8; exact sHereS_8 zs zt x p q X cx P cp Q cq w hz ht0 hX
  have m8 : (zk == 8) = false := by simp [n8]
  by_cases n9 : zk = 9
  · subst n9; exact sHereS_9 zs zt x p q X cx P cp Q cq w hz ht0 hX
  have m9 : (zk == 9) = false := by simp [n9]
  by_cases n10 : zk = 10
  · subst n10; exact sHereS_10 zs zt x p q X cx P cp Q cq w hz ht0 hX
  have m10 : (zk == 10) = false := by simp [n10]
  by_cases n11 : zk = 11
  · subst n11; exact sHereS_11 zs zt x p q X cx P cp Q cq w hz ht0 hX
  have m11 : (zk == 11) = false := by simp [n11]
  by_cases n12 : zk = 12
  · subst n12; exact sHereS_12 zs zt x p q X cx P cp Q cq w hz ht0 hX
  have m12 : (zk == 12) = false := by simp [n12]
  have HV := Lib.hid (headS_none (k := zk) (by intro j hj; simp only [List.mem_cons, List.not_mem_nil, or_false] at hj; rcases hj with rfl | rfl | rfl | rfl | rfl | rfl | rfl | rfl | rfl | rfl | rfl | rfl <;> assumption) zs zt x p.len q.len)
  cases ht : zt.toList.isEmpty
  all_goals
    go_enter Tryz.func48, Tryz.ntmps48
    go_wp2_with fail
    go_ret
    exact ⟨ret_bool HV.out.symm, L0⟩

end Go.Proofs.YtemlnpncljomgaaGreatDoor
