import Derived.Test.YtemlnpncljomgaaGreatDoorStmtP
import Derived.Test.YtemlnpncljomgaaGreatDoorExprOk
namespace Go.Proofs.YtemlnpncljomgaaGreatDoor
open Go.RowKit

set_option maxHeartbeats 8000000 in
theorem iHeadS_1 (zs zt : ByteArray) (x : Fr (Int × Int × ByteArray)) (p q : St) (X : Option Addr) (cx : Nat) (P : Option Addr) (cp : Nat) (Q : Option Addr) (cq : Nat) (w : World) (hz : zs.size ≤ 1048576) (ht0 : zt.size ≤ 1048576) (hxl : x.size ≤ 1048576) (hxq : FrOk qSmE x) (hX : Sl exprC w 0 w.heap.size X x) :
    Calls Tryz.prog 50 #[.agg #[.int .i64 1, .string zs, .string zt, .slice X x.len cx, .slice P p.len cp, .slice Q q.len cq]] w fun e w' => e = .returned (.bool (hereS ((1, zs, zt), x, p.len, q.len))) ∧ Below w.heap.size w w' := by
  have _ := hz
  have _ := ht0
  have B := Blk.new w 40 #[.int .i64 1, .string zs, .string zt, .slice X x.len cx, .slice P p.len cp, .slice Q q.len cq]
  have L0 := bl_alloc (Below.refl w.heap.size w) (.cells #[.int .i64 1, .string zs, .string zt, .slice X x.len cx, .slice P p.len cp, .slice Q q.len cq] 40)
  have hlen := x.len_size
  have CX := Lib.hid iExprOk
  have HQ := Lib.hid hxq
  have hR0 := fun (h : termsB x = true) => show hereS (((1 : Int), zs, zt), x, p.len, q.len) = headS 1 zs zt x p.len q.len from by unfold hereS; rw [h]; rfl
  have hR1 := fun (h : termsB x = false) => show hereS (((1 : Int), zs, zt), x, p.len, q.len) = false from by unfold hereS; rw [h]; rfl
  obtain ⟨G, hG⟩ : ∃ G, hereS (((1 : Int), zs, zt), x, p.len, q.len) = G := ⟨_, rfl⟩
  rw [hG] at hR0 hR1 ⊢
  have HR0 := Lib.hid hR0
  have HR1 := Lib.hid hR1
  clear hxq hR0 hR1 hG
  obtain ⟨R, hR⟩ : ∃ R, termsB x = R := ⟨_, rfl⟩
  have HR := Lib.hid hR
  clear hR
  go_enter Tryz.func50, Tryz.ntmps50
  go_wp2_with fail
  go_loopw [10] (fun i wr => ∃ k : Nat, k ≤ x.len ∧ i = .int .i64 k ∧ termsB (x.drop k) = R ∧ Blk wr w.heap.size 40 #[.int .i64 1, .string zs, .string zt, .slice X x.len cx, .slice P p.len cp, .slice Q q.len cq] ∧ Below w.heap.size w wr) (fun i _ => x.len - (intOf i).toNat)
  case atStart => exact ⟨0, Nat.zero_le _, rfl, by rw [Fr.drop_zero]; exact HR.out, B, L0⟩
  case round =>
    clear B L0
    obtain ⟨kk, hk, rfl, hE, B, L0⟩ := hrel
    by_cases hlt : kk < x.len
    · obtain ⟨b, o, a, k1, A1, c1, rfl, hb, hd, hks, hSk, q0, q1, q2, q3⟩ := at_Expr (hX.below L0 (Nat.le_refl _)) hlt
      have hqk := FrOk.drop kk HQ.out
      rw [hd] at hqk
      obtain ⟨hqa, _, hqk, _⟩ := hqk
      obtain ⟨yk, yn, ys⟩ := a
      simp only at q0 q1 q2
      have hlt' : (kk : Int) < (x.len : Int) := by omega
      have L1 := bl_alloc L0 (.cells #[.int .i64 yk, .int .i64 yn, .string ys, .slice A1 k1.len c1] 29)
      have B1 := B.alloc (.cells #[.int .i64 yk, .int .i64 yn, .string ys, .slice A1 k1.len c1] 29)
      have cZ := CX.out yk yn ys k1 A1 c1 (wr.alloc (.cells #[.int .i64 yk, .int .i64 yn, .string ys, .slice A1 k1.len c1] 29)) (by omega) hqa hqk ((hSk.below (B := wr.heap.size) (bl_alloc (Below.refl wr.heap.size wr) _) L0.size).more (Nat.le_refl _) L1.size)
      obtain ⟨z, hz⟩ : ∃ z, rightN cntE (yk, yn, ys) k1 = z := ⟨_, rfl⟩
      rw [hz] at cZ
      have CZ := Lib.hid cZ
      clear cZ
      cases z
      · have HG := Lib.hid (HR1.out (HR.out.trans (hE.symm.trans (termsB_no hd hz))))
        clear hd hz HR hqk hE HR0 HR1
        go_wp2_with fail
        refine CZ.out.mono ?_; rintro e w1 ⟨rfl, b1⟩
        go_wp2_with fail
        go_ret
        exact ⟨ret_bool HG.out.symm, bl_trans L1 b1⟩
      · have HN := Lib.hid ((termsB_yes hd hz).symm.trans hE)
        clear hd hz HR hqk hE HR0 HR1
        go_wp2_with fail
        refine CZ.out.mono ?_; rintro e w1 ⟨rfl, b1⟩
        go_wp2_with fail
        go_roundw
        case rel => exact ⟨kk + 1, by omega, by go_num, HN.out, B1.keep b1, bl_trans L1 b1⟩
        case measure => simp [intOf]; omega
    · obtain rfl : kk = x.len := by omega
      rw [Fr.drop_all] at hE
      have hG := HR0.out (HR.out.trans hE.symm)
      have HGG := Lib.hid hG
      clear hE HR HR0 HR1 CX HQ hG
      have p0 := B.cell
      have hwr := Nat.le_refl wr.heap.size
      cases ht : zt.toList.isEmpty
      · skip
        have HV := Lib.hid (show headS 1 zs zt x p.len q.len = false from by rw [headS_1, ht]; simp)
        go_wp2_with fail
        go_ret
        exact ⟨ret_bool ((HGG.out.trans HV.out).symm), L0⟩
      · skip
        by_cases hq0 : q.len = 0
        · have gq : ((q.len : Int) == 0) = true := by simp [hq0]
          have hq0' : (q.len == 0) = true := by simp [hq0]
          have gq2 : ¬ (0 : Int) < (q.len : Int) := by omega
          have Hq := Lib.hid hq0
          clear hq0
          by_cases hp0 : p.len = 0
          · have gp : ((p.len : Int) == 0) = true := by simp [hp0]
            have hp0' : (p.len == 0) = true := by simp [hp0]
            have gp2 : ¬ (0 : Int) < (p.len : Int) := by omega
            have Hp := Lib.hid hp0
            clear hp0
            cases he : zs.toList.isEmpty
            · skip
              have HV := Lib.hid (show headS 1 zs zt x p.len q.len = false from by rw [headS_1, ht, hq0', hp0', he]; simp)
              go_wp2_with fail
              go_ret
              exact ⟨ret_bool ((HGG.out.trans HV.out).symm), L0⟩
            · skip
              have c1 := fun w => iWithin (x.len : Int) 1 5 w
              obtain ⟨q1, hb1⟩ : ∃ q, inI (x.len : Int) 1 5 = q := ⟨_, rfl⟩
              rw [hb1] at c1
              have C1 := Lib.hid c1
              clear c1
              go_wp2_with fail
              refine (C1.out _).mono ?_; rintro e w1 ⟨rfl, rfl⟩
              have L1 := L0
              have B1 := B
              cases q1
              · skip
                have HV := Lib.hid (show headS 1 zs zt x p.len q.len = false from by rw [headS_1, ht, hq0', hp0', he, hb1]; simp)
                go_wp2_with fail
                go_ret
                exact ⟨ret_bool ((HGG.out.trans HV.out).symm), L1⟩
              · skip
                have HV := Lib.hid (show headS 1 zs zt x p.len q.len = true from by rw [headS_1, ht, hq0', hp0', he, hb1]; rfl)
                go_wp2_with fail
                go_ret
                exact ⟨ret_bool ((HGG.out.trans HV.out).symm), L1⟩
          · have gp : ((p.len : Int) == 0) = false := beq_eq_false_iff_ne.2 (by omega)
            have hp0' : (p.len == 0) = false := by simp [hp0]
            have gp2 : (0 : Int) < (p.len : Int) := by omega
            have Hp := Lib.hid hp0
            clear hp0
            have HV := Lib.hid (show headS 1 zs zt x p.len q.len = false from by rw [headS_1, ht, hq0', hp0']; simp)
            go_wp2_with fail
            go_ret
            exact ⟨ret_bool ((HGG.out.trans HV.out).symm), L0⟩
        · have gq : ((q.len : Int) == 0) = false := beq_eq_false_iff_ne.2 (by omega)
          have hq0' : (q.len == 0) = false := by simp [hq0]
          have gq2 : (0 : Int) < (q.len : Int) := by omega
          have Hq := Lib.hid hq0
          clear hq0
          have HV := Lib.hid (show headS 1 zs zt x p.len q.len = false from by rw [headS_1, ht, hq0']; simp)
          go_wp2_with fail
          go_ret
          exact ⟨ret_bool ((HGG.out.trans HV.out).symm), L0⟩

set_option maxHeartbeats 8000000 in
theorem iHeadS_2 (zs zt : ByteArray) (x : Fr (Int × Int × ByteArray)) (p q : St) (X : Option Addr) (cx : Nat) (P : Option Addr) (cp : Nat) (Q : Option Addr) (cq : Nat) (w : World) (hz : zs.size ≤ 1048576) (ht0 : zt.size ≤ 1048576) (hxl : x.size ≤ 1048576) (hxq : FrOk qSmE x) (hX : Sl exprC w 0 w.heap.size X x) :
    Calls Tryz.prog 50 #[.agg #[.int .i64 2, .string zs, .string zt, .slice X x.len cx, .slice P p.len cp, .slice Q q.len cq]] w fun e w' => e = .returned (.bool (hereS ((2, zs, zt), x, p.len, q.len))) ∧ Below w.heap.size w w' := by
  have _ := hz
  have _ := ht0
  have B := Blk.new w 40 #[.int .i64 2, .string zs, .string zt, .slice X x.len cx, .slice P p.len cp, .slice Q q.len cq]
  have L0 := bl_alloc (Below.refl w.heap.size w) (.cells #[.int .i64 2, .string zs, .string zt, .slice X x.len cx, .slice P p.len cp, .slice Q q.len cq] 40)
  have hlen := x.len_size
  have CX := Lib.hid iExprOk
  have HQ := Lib.hid hxq
  have hR0 := fun (h : termsB x = true) => show hereS (((2 : Int), zs, zt), x, p.len, q.len) = headS 2 zs zt x p.len q.len from by unfold hereS; rw [h]; rfl
  have hR1 := fun (h : termsB x = false) => show hereS (((2 : Int), zs, zt), x, p.len, q.len) = false from by unfold hereS; rw [h]; rfl
  obtain ⟨G, hG⟩ : ∃ G, hereS (((2 : Int), zs, zt), x, p.len, q.len) = G := ⟨_, rfl⟩
  rw [hG] at hR0 hR1 ⊢
  have HR0 := Lib.hid hR0
  have HR1 := Lib.hid hR1
  clear hxq hR0 hR1 hG
  obtain ⟨R, hR⟩ : ∃ R, termsB x = R := ⟨_, rfl⟩
  have HR := Lib.hid hR
  clear hR
  go_enter Tryz.func50, Tryz.ntmps50
  go_wp2_with fail
  go_loopw [10] (fun i wr => ∃ k : Nat, k ≤ x.len ∧ i = .int .i64 k ∧ termsB (x.drop k) = R ∧ Blk wr w.heap.size 40 #[.int .i64 2, .string zs, .string zt, .slice X x.len cx, .slice P p.len cp, .slice Q q.len cq] ∧ Below w.heap.size w wr) (fun i _ => x.len - (intOf i).toNat)
  case atStart => exact ⟨0, Nat.zero_le _, rfl, by rw [Fr.drop_zero]; exact HR.out, B, L0⟩
  case round =>
    clear B L0
    obtain ⟨kk, hk, rfl, hE, B, L0⟩ := hrel
    by_cases hlt : kk < x.len
    · obtain ⟨b, o, a, k1, A1, c1, rfl, hb, hd, hks, hSk, q0, q1, q2, q3⟩ := at_Expr (hX.below L0 (Nat.le_refl _)) hlt
      have hqk := FrOk.drop kk HQ.out
      rw [hd] at hqk
      obtain ⟨hqa, _, hqk, _⟩ := hqk
      obtain ⟨yk, yn, ys⟩ := a
      simp only at q0 q1 q2
      have hlt' : (kk : Int) < (x.len : Int) := by omega
      have L1 := bl_alloc L0 (.cells #[.int .i64 yk, .int .i64 yn, .string ys, .slice A1 k1.len c1] 29)
      have B1 := B.alloc (.cells #[.int .i64 yk, .int .i64 yn, .string ys, .slice A1 k1.len c1] 29)
      have cZ := CX.out yk yn ys k1 A1 c1 (wr.alloc (.cells #[.int .i64 yk, .int .i64 yn, .string ys, .slice A1 k1.len c1] 29)) (by omega) hqa hqk ((hSk.below (B := wr.heap.size) (bl_alloc (Below.refl wr.heap.size wr) _) L0.size).more (Nat.le_refl _) L1.size)
      obtain ⟨z, hz⟩ : ∃ z, rightN cntE (yk, yn, ys) k1 = z := ⟨_, rfl⟩
      rw [hz] at cZ
      have CZ := Lib.hid cZ
      clear cZ
      cases z
      · have HG := Lib.hid (HR1.out (HR.out.trans (hE.symm.trans (termsB_no hd hz))))
        clear hd hz HR hqk hE HR0 HR1
        go_wp2_with fail
        refine CZ.out.mono ?_; rintro e w1 ⟨rfl, b1⟩
        go_wp2_with fail
        go_ret
        exact ⟨ret_bool HG.out.symm, bl_trans L1 b1⟩
      · have HN := Lib.hid ((termsB_yes hd hz).symm.trans hE)
        clear hd hz HR hqk hE HR0 HR1
        go_wp2_with fail
        refine CZ.out.mono ?_; rintro e w1 ⟨rfl, b1⟩
        go_wp2_with fail
        go_roundw
        case rel => exact ⟨kk + 1, by omega, by go_num, HN.out, B1.keep b1, bl_trans L1 b1⟩
        case measure => simp [intOf]; omega
    · obtain rfl : kk = x.len := by omega
      rw [Fr.drop_all] at hE
      have hG := HR0.out (HR.out.trans hE.symm)
      have HGG := Lib.hid hG
      clear hE HR HR0 HR1 CX HQ hG
      have p0 := B.cell
      have hwr := Nat.le_refl wr.heap.size
      cases ht : zt.toList.isEmpty
      · skip
        have HV := Lib.hid (show headS 2 zs zt x p.len q.len = false from by rw [headS_2, ht]; simp)
        go_wp2_with fail
        go_ret
        exact ⟨ret_bool ((HGG.out.trans HV.out).symm), L0⟩
      · skip
        by_cases hq0 : q.len = 0
        · have gq : ((q.len : Int) == 0) = true := by simp [hq0]
          have hq0' : (q.len == 0) = true := by simp [hq0]
          have gq2 : ¬ (0 : Int) < (q.len : Int) := by omega
          have Hq := Lib.hid hq0
          clear hq0
          by_cases hp0 : p.len = 0
          · have gp : ((p.len : Int) == 0) = true := by simp [hp0]
            have hp0' : (p.len == 0) = true := by simp [hp0]
            have gp2 : ¬ (0 : Int) < (p.len : Int) := by omega
            have Hp := Lib.hid hp0
            clear hp0
            cases he : zs.toList.isEmpty
            · skip
              have c1 := fun w => iNameOk zs w (by omega)
              obtain ⟨q1, hb1⟩ : ∃ q, nameOkB zs = q := ⟨_, rfl⟩
              rw [hb1] at c1
              have C1 := Lib.hid c1
              clear c1
              go_wp2_with fail
              refine (C1.out _).mono ?_; rintro e w1 ⟨rfl, b1⟩
              have L1 := bl_trans L0 b1
              have B1 := B.keep b1
              have p1 := B1.cell
              cases q1
              · skip
                have HV := Lib.hid (show headS 2 zs zt x p.len q.len = false from by rw [headS_2, ht, hq0', hp0', hb1]; simp)
                go_wp2_with fail
                go_ret
                exact ⟨ret_bool ((HGG.out.trans HV.out).symm), L1⟩
              · skip
                by_cases hx0 : x.len = 1
                · have gx : ((x.len : Int) == 1) = true := by simp [hx0]
                  have hx0' : (x.len == 1) = true := by simp [hx0]
                  have Hx := Lib.hid hx0
                  clear hx0
                  have HV := Lib.hid (show headS 2 zs zt x p.len q.len = true from by rw [headS_2, ht, hq0', hp0', hb1, hx0']; rfl)
                  go_wp2_with fail
                  go_ret
                  exact ⟨ret_bool ((HGG.out.trans HV.out).symm), L1⟩
                · have gx : ((x.len : Int) == 1) = false := beq_eq_false_iff_ne.2 (by omega)
                  have hx0' : (x.len == 1) = false := by simp [hx0]
                  have Hx := Lib.hid hx0
                  clear hx0
                  have HV := Lib.hid (show headS 2 zs zt x p.len q.len = false from by rw [headS_2, ht, hq0', hp0', hb1, hx0']; simp)
                  go_wp2_with fail
                  go_ret
                  exact ⟨ret_bool ((HGG.out.trans HV.out).symm), L1⟩
            · have hne := nameOkB_nil he
              have HV := Lib.hid (show headS 2 zs zt x p.len q.len = false from by rw [headS_2, ht, hq0', hp0', hne]; simp)
              go_wp2_with fail
              go_ret
              exact ⟨ret_bool ((HGG.out.trans HV.out).symm), L0⟩
          · have gp : ((p.len : Int) == 0) = false := beq_eq_false_iff_ne.2 (by omega)
            have hp0' : (p.len == 0) = false := by simp [hp0]
            have gp2 : (0 : Int) < (p.len : Int) := by omega
            have Hp := Lib.hid hp0
            clear hp0
            have HV := Lib.hid (show headS 2 zs zt x p.len q.len = false from by rw [headS_2, ht, hq0', hp0']; simp)
            go_wp2_with fail
            go_ret
            exact ⟨ret_bool ((HGG.out.trans HV.out).symm), L0⟩
        · have gq : ((q.len : Int) == 0) = false := beq_eq_false_iff_ne.2 (by omega)
          have hq0' : (q.len == 0) = false := by simp [hq0]
          have gq2 : (0 : Int) < (q.len : Int) := by omega
          have Hq := Lib.hid hq0
          clear hq0
          have HV := Lib.hid (show headS 2 zs zt x p.len q.len = false from by rw [headS_2, ht, hq0']; simp)
          go_wp2_with fail
          go_ret
          exact ⟨ret_bool ((HGG.out.trans HV.out).symm), L0⟩

set_option maxHeartbeats 8000000 in
theorem iHeadS_3 (zs zt : ByteArray) (x : Fr (Int × Int × ByteArray)) (p q : St) (X : Option Addr) (cx : Nat) (P : Option Addr) (cp : Nat) (Q : Option Addr) (cq : Nat) (w : World) (hz : zs.size ≤ 1048576) (ht0 : zt.size ≤ 1048576) (hxl : x.size ≤ 1048576) (hxq : FrOk qSmE x) (hX : Sl exprC w 0 w.heap.size X x) :
    Calls Tryz.prog 50 #[.agg #[.int .i64 3, .string zs, .string zt, .slice X x.len cx, .slice P p.len cp, .slice Q q.len cq]] w fun e w' => e = .returned (.bool (hereS ((3, zs, zt), x, p.len, q.len))) ∧ Below w.heap.size w w' := by
  have _ := hz
  have _ := ht0
  have B := Blk.new w 40 #[.int .i64 3, .string zs, .string zt, .slice X x.len cx, .slice P p.len cp, .slice Q q.len cq]
  have L0 := bl_alloc (Below.refl w.heap.size w) (.cells #[.int .i64 3, .string zs, .string zt, .slice X x.len cx, .slice P p.len cp, .slice Q q.len cq] 40)
  have hlen := x.len_size
  have CX := Lib.hid iExprOk
  have HQ := Lib.hid hxq
  have hR0 := fun (h : termsB x = true) => show hereS (((3 : Int), zs, zt), x, p.len, q.len) = headS 3 zs zt x p.len q.len from by unfold hereS; rw [h]; rfl
  have hR1 := fun (h : termsB x = false) => show hereS (((3 : Int), zs, zt), x, p.len, q.len) = false from by unfold hereS; rw [h]; rfl
  obtain ⟨G, hG⟩ : ∃ G, hereS (((3 : Int), zs, zt), x, p.len, q.len) = G := ⟨_, rfl⟩
  rw [hG] at hR0 hR1 ⊢
  have HR0 := Lib.hid hR0
  have HR1 := Lib.hid hR1
  clear hxq hR0 hR1 hG
  obtain ⟨R, hR⟩ : ∃ R, termsB x = R := ⟨_, rfl⟩
  have HR := Lib.hid hR
  clear hR
  go_enter Tryz.func50, Tryz.ntmps50
  go_wp2_with fail
  go_loopw [10] (fun i wr => ∃ k : Nat, k ≤ x.len ∧ i = .int .i64 k ∧ termsB (x.drop k) = R ∧ Blk wr w.heap.size 40 #[.int .i64 3, .string zs, .string zt, .slice X x.len cx, .slice P p.len cp, .slice Q q.len cq] ∧ Below w.heap.size w wr) (fun i _ => x.len - (intOf i).toNat)
  case atStart => exact ⟨0, Nat.zero_le _, rfl, by rw [Fr.drop_zero]; exact HR.out, B, L0⟩
  case round =>
    clear B L0
    obtain ⟨kk, hk, rfl, hE, B, L0⟩ := hrel
    by_cases hlt : kk < x.len
    · obtain ⟨b, o, a, k1, A1, c1, rfl, hb, hd, hks, hSk, q0, q1, q2, q3⟩ := at_Expr (hX.below L0 (Nat.le_refl _)) hlt
      have hqk := FrOk.drop kk HQ.out
      rw [hd] at hqk
      obtain ⟨hqa, _, hqk, _⟩ := hqk
      obtain ⟨yk, yn, ys⟩ := a
      simp only at q0 q1 q2
      have hlt' : (kk : Int) < (x.len : Int) := by omega
      have L1 := bl_alloc L0 (.cells #[.int .i64 yk, .int .i64 yn, .string ys, .slice A1 k1.len c1] 29)
      have B1 := B.alloc (.cells #[.int .i64 yk, .int .i64 yn, .string ys, .slice A1 k1.len c1] 29)
      have cZ := CX.out yk yn ys k1 A1 c1 (wr.alloc (.cells #[.int .i64 yk, .int .i64 yn, .string ys, .slice A1 k1.len c1] 29)) (by omega) hqa hqk ((hSk.below (B := wr.heap.size) (bl_alloc (Below.refl wr.heap.size wr) _) L0.size).more (Nat.le_refl _) L1.size)
      obtain ⟨z, hz⟩ : ∃ z, rightN cntE (yk, yn, ys) k1 = z := ⟨_, rfl⟩
      rw [hz] at cZ
      have CZ := Lib.hid cZ
      clear cZ
      cases z
      · have HG := Lib.hid (HR1.out (HR.out.trans (hE.symm.trans (termsB_no hd hz))))
        clear hd hz HR hqk hE HR0 HR1
        go_wp2_with fail
        refine CZ.out.mono ?_; rintro e w1 ⟨rfl, b1⟩
        go_wp2_with fail
        go_ret
        exact ⟨ret_bool HG.out.symm, bl_trans L1 b1⟩
      · have HN := Lib.hid ((termsB_yes hd hz).symm.trans hE)
        clear hd hz HR hqk hE HR0 HR1
        go_wp2_with fail
        refine CZ.out.mono ?_; rintro e w1 ⟨rfl, b1⟩
        go_wp2_with fail
        go_roundw
        case rel => exact ⟨kk + 1, by omega, by go_num, HN.out, B1.keep b1, bl_trans L1 b1⟩
        case measure => simp [intOf]; omega
    · obtain rfl : kk = x.len := by omega
      rw [Fr.drop_all] at hE
      have hG := HR0.out (HR.out.trans hE.symm)
      have HGG := Lib.hid hG
      clear hE HR HR0 HR1 CX HQ hG
      have p0 := B.cell
      have hwr := Nat.le_refl wr.heap.size
      cases ht : zt.toList.isEmpty
      · skip
        have HV := Lib.hid (show headS 3 zs zt x p.len q.len = false from by rw [headS_3, ht]; simp)
        go_wp2_with fail
        go_ret
        exact ⟨ret_bool ((HGG.out.trans HV.out).symm), L0⟩
      · skip
        by_cases hq0 : q.len = 0
        · have gq : ((q.len : Int) == 0) = true := by simp [hq0]
          have hq0' : (q.len == 0) = true := by simp [hq0]
          have gq2 : ¬ (0 : Int) < (q.len : Int) := by omega
          have Hq := Lib.hid hq0
          clear hq0
          by_cases hp0 : p.len = 0
          · have gp : ((p.len : Int) == 0) = true := by simp [hp0]
            have hp0' : (p.len == 0) = true := by simp [hp0]
            have gp2 : ¬ (0 : Int) < (p.len : Int) := by omega
            have Hp := Lib.hid hp0
            clear hp0
            cases he : zs.toList.isEmpty
            · skip
              have c1 := fun w => iNameOk zs w (by omega)
              obtain ⟨q1, hb1⟩ : ∃ q, nameOkB zs = q := ⟨_, rfl⟩
              rw [hb1] at c1
              have C1 := Lib.hid c1
              clear c1
              go_wp2_with fail
              refine (C1.out _).mono ?_; rintro e w1 ⟨rfl, b1⟩
              have L1 := bl_trans L0 b1
              have B1 := B.keep b1
              have p1 := B1.cell
              cases q1
              · skip
                have HV := Lib.hid (show headS 3 zs zt x p.len q.len = false from by rw [headS_3, ht, hq0', hp0', hb1]; simp)
                go_wp2_with fail
                go_ret
                exact ⟨ret_bool ((HGG.out.trans HV.out).symm), L1⟩
              · skip
                by_cases hx0 : x.len = 2
                · have gx : ((x.len : Int) == 2) = true := by simp [hx0]
                  have hx0' : (x.len == 2) = true := by simp [hx0]
                  have Hx := Lib.hid hx0
                  clear hx0
                  have HV := Lib.hid (show headS 3 zs zt x p.len q.len = true from by rw [headS_3, ht, hq0', hp0', hb1, hx0']; rfl)
                  go_wp2_with fail
                  go_ret
                  exact ⟨ret_bool ((HGG.out.trans HV.out).symm), L1⟩
                · have gx : ((x.len : Int) == 2) = false := beq_eq_false_iff_ne.2 (by omega)
                  have hx0' : (x.len == 2) = false := by simp [hx0]
                  have Hx := Lib.hid hx0
                  clear hx0
                  have HV := Lib.hid (show headS 3 zs zt x p.len q.len = false from by rw [headS_3, ht, hq0', hp0', hb1, hx0']; simp)
                  go_wp2_with fail
                  go_ret
                  exact ⟨ret_bool ((HGG.out.trans HV.out).symm), L1⟩
            · have hne := nameOkB_nil he
              have HV := Lib.hid (show headS 3 zs zt x p.len q.len = false from by rw [headS_3, ht, hq0', hp0', hne]; simp)
              go_wp2_with fail
              go_ret
              exact ⟨ret_bool ((HGG.out.trans HV.out).symm), L0⟩
          · have gp : ((p.len : Int) == 0) = false := beq_eq_false_iff_ne.2 (by omega)
            have hp0' : (p.len == 0) = false := by simp [hp0]
            have gp2 : (0 : Int) < (p.len : Int) := by omega
            have Hp := Lib.hid hp0
            clear hp0
            have HV := Lib.hid (show headS 3 zs zt x p.len q.len = false from by rw [headS_3, ht, hq0', hp0']; simp)
            go_wp2_with fail
            go_ret
            exact ⟨ret_bool ((HGG.out.trans HV.out).symm), L0⟩
        · have gq : ((q.len : Int) == 0) = false := beq_eq_false_iff_ne.2 (by omega)
          have hq0' : (q.len == 0) = false := by simp [hq0]
          have gq2 : (0 : Int) < (q.len : Int) := by omega
          have Hq := Lib.hid hq0
          clear hq0
          have HV := Lib.hid (show headS 3 zs zt x p.len q.len = false from by rw [headS_3, ht, hq0']; simp)
          go_wp2_with fail
          go_ret
          exact ⟨ret_bool ((HGG.out.trans HV.out).symm), L0⟩

set_option maxHeartbeats 8000000 in
theorem iHeadS_4 (zs zt : ByteArray) (x : Fr (Int × Int × ByteArray)) (p q : St) (X : Option Addr) (cx : Nat) (P : Option Addr) (cp : Nat) (Q : Option Addr) (cq : Nat) (w : World) (hz : zs.size ≤ 1048576) (ht0 : zt.size ≤ 1048576) (hxl : x.size ≤ 1048576) (hxq : FrOk qSmE x) (hX : Sl exprC w 0 w.heap.size X x) :
    Calls Tryz.prog 50 #[.agg #[.int .i64 4, .string zs, .string zt, .slice X x.len cx, .slice P p.len cp, .slice Q q.len cq]] w fun e w' => e = .returned (.bool (hereS ((4, zs, zt), x, p.len, q.len))) ∧ Below w.heap.size w w' := by
  have _ := hz
  have _ := ht0
  have B := Blk.new w 40 #[.int .i64 4, .string zs, .string zt, .slice X x.len cx, .slice P p.len cp, .slice Q q.len cq]
  have L0 := bl_alloc (Below.refl w.heap.size w) (.cells #[.int .i64 4, .string zs, .string zt, .slice X x.len cx, .slice P p.len cp, .slice Q q.len cq] 40)
  have hlen := x.len_size
  have CX := Lib.hid iExprOk
  have HQ := Lib.hid hxq
  have hR0 := fun (h : termsB x = true) => show hereS (((4 : Int), zs, zt), x, p.len, q.len) = headS 4 zs zt x p.len q.len from by unfold hereS; rw [h]; rfl
  have hR1 := fun (h : termsB x = false) => show hereS (((4 : Int), zs, zt), x, p.len, q.len) = false from by unfold hereS; rw [h]; rfl
  obtain ⟨G, hG⟩ : ∃ G, hereS (((4 : Int), zs, zt), x, p.len, q.len) = G := ⟨_, rfl⟩
  rw [hG] at hR0 hR1 ⊢
  have HR0 := Lib.hid hR0
  have HR1 := Lib.hid hR1
  clear hxq hR0 hR1 hG
  obtain ⟨R, hR⟩ : ∃ R, termsB x = R := ⟨_, rfl⟩
  have HR := Lib.hid hR
  clear hR
  go_enter Tryz.func50, Tryz.ntmps50
  go_wp2_with fail
  go_loopw [10] (fun i wr => ∃ k : Nat, k ≤ x.len ∧ i = .int .i64 k ∧ termsB (x.drop k) = R ∧ Blk wr w.heap.size 40 #[.int .i64 4, .string zs, .string zt, .slice X x.len cx, .slice P p.len cp, .slice Q q.len cq] ∧ Below w.heap.size w wr) (fun i _ => x.len - (intOf i).toNat)
  case atStart => exact ⟨0, Nat.zero_le _, rfl, by rw [Fr.drop_zero]; exact HR.out, B, L0⟩
  case round =>
    clear B L0
    obtain ⟨kk, hk, rfl, hE, B, L0⟩ := hrel
    by_cases hlt : kk < x.len
    · obtain ⟨b, o, a, k1, A1, c1, rfl, hb, hd, hks, hSk, q0, q1, q2, q3⟩ := at_Expr (hX.below L0 (Nat.le_refl _)) hlt
      have hqk := FrOk.drop kk HQ.out
      rw [hd] at hqk
      obtain ⟨hqa, _, hqk, _⟩ := hqk
      obtain ⟨yk, yn, ys⟩ := a
      simp only at q0 q1 q2
      have hlt' : (kk : Int) < (x.len : Int) := by omega
      have L1 := bl_alloc L0 (.cells #[.int .i64 yk, .int .i64 yn, .string ys, .slice A1 k1.len c1] 29)
      have B1 := B.alloc (.cells #[.int .i64 yk, .int .i64 yn, .string ys, .slice A1 k1.len c1] 29)
      have cZ := CX.out yk yn ys k1 A1 c1 (wr.alloc (.cells #[.int .i64 yk, .int .i64 yn, .string ys, .slice A1 k1.len c1] 29)) (by omega) hqa hqk ((hSk.below (B := wr.heap.size) (bl_alloc (Below.refl wr.heap.size wr) _) L0.size).more (Nat.le_refl _) L1.size)
      obtain ⟨z, hz⟩ : ∃ z, rightN cntE (yk, yn, ys) k1 = z := ⟨_, rfl⟩
      rw [hz] at cZ
      have CZ := Lib.hid cZ
      clear cZ
      cases z
      · have HG := Lib.hid (HR1.out (HR.out.trans (hE.symm.trans (termsB_no hd hz))))
        clear hd hz HR hqk hE HR0 HR1
        go_wp2_with fail
        refine CZ.out.mono ?_; rintro e w1 ⟨rfl, b1⟩
        go_wp2_with fail
        go_ret
        exact ⟨ret_bool HG.out.symm, bl_trans L1 b1⟩
      · have HN := Lib.hid ((termsB_yes hd hz).symm.trans hE)
        clear hd hz HR hqk hE HR0 HR1
        go_wp2_with fail
        refine CZ.out.mono ?_; rintro e w1 ⟨rfl, b1⟩
        go_wp2_with fail
        go_roundw
        case rel => exact ⟨kk + 1, by omega, by go_num, HN.out, B1.keep b1, bl_trans L1 b1⟩
        case measure => simp [intOf]; omega
    · obtain rfl : kk = x.len := by omega
      rw [Fr.drop_all] at hE
      have hG := HR0.out (HR.out.trans hE.symm)
      have HGG := Lib.hid hG
      clear hE HR HR0 HR1 CX HQ hG
      have p0 := B.cell
      have hwr := Nat.le_refl wr.heap.size
      cases ht : zt.toList.isEmpty
      · skip
        have HV := Lib.hid (show headS 4 zs zt x p.len q.len = false from by rw [headS_4, ht]; simp)
        go_wp2_with fail
        go_ret
        exact ⟨ret_bool ((HGG.out.trans HV.out).symm), L0⟩
      · skip
        by_cases hq0 : q.len = 0
        · have gq : ((q.len : Int) == 0) = true := by simp [hq0]
          have hq0' : (q.len == 0) = true := by simp [hq0]
          have gq2 : ¬ (0 : Int) < (q.len : Int) := by omega
          have Hq := Lib.hid hq0
          clear hq0
          by_cases hp0 : p.len = 0
          · have gp : ((p.len : Int) == 0) = true := by simp [hp0]
            have hp0' : (p.len == 0) = true := by simp [hp0]
            have gp2 : ¬ (0 : Int) < (p.len : Int) := by omega
            have Hp := Lib.hid hp0
            clear hp0
            cases he : zs.toList.isEmpty
            · skip
              have HV := Lib.hid (show headS 4 zs zt x p.len q.len = false from by rw [headS_4, ht, hq0', hp0', he]; simp)
              go_wp2_with fail
              go_ret
              exact ⟨ret_bool ((HGG.out.trans HV.out).symm), L0⟩
            · skip
              by_cases hx0 : x.len = 2
              · have gx : ((x.len : Int) == 2) = true := by simp [hx0]
                have hx0' : (x.len == 2) = true := by simp [hx0]
                have Hx := Lib.hid hx0
                clear hx0
                have HV := Lib.hid (show headS 4 zs zt x p.len q.len = true from by rw [headS_4, ht, hq0', hp0', he, hx0']; rfl)
                go_wp2_with fail
                go_ret
                exact ⟨ret_bool ((HGG.out.trans HV.out).symm), L0⟩
              · have gx : ((x.len : Int) == 2) = false := beq_eq_false_iff_ne.2 (by omega)
                have hx0' : (x.len == 2) = false := by simp [hx0]
                have Hx := Lib.hid hx0
                clear hx0
                have HV := Lib.hid (show headS 4 zs zt x p.len q.len = false from by rw [headS_4, ht, hq0', hp0', he, hx0']; simp)
                go_wp2_with fail
                go_ret
                exact ⟨ret_bool ((HGG.out.trans HV.out).symm), L0⟩
          · have gp : ((p.len : Int) == 0) = false := beq_eq_false_iff_ne.2 (by omega)
            have hp0' : (p.len == 0) = false := by simp [hp0]
            have gp2 : (0 : Int) < (p.len : Int) := by omega
            have Hp := Lib.hid hp0
            clear hp0
            have HV := Lib.hid (show headS 4 zs zt x p.len q.len = false from by rw [headS_4, ht, hq0', hp0']; simp)
            go_wp2_with fail
            go_ret
            exact ⟨ret_bool ((HGG.out.trans HV.out).symm), L0⟩
        · have gq : ((q.len : Int) == 0) = false := beq_eq_false_iff_ne.2 (by omega)
          have hq0' : (q.len == 0) = false := by simp [hq0]
          have gq2 : (0 : Int) < (q.len : Int) := by omega
          have Hq := Lib.hid hq0
          clear hq0
          have HV := Lib.hid (show headS 4 zs zt x p.len q.len = false from by rw [headS_4, ht, hq0']; simp)
          go_wp2_with fail
          go_ret
          exact ⟨ret_bool ((HGG.out.trans HV.out).symm), L0⟩

set_option maxHeartbeats 8000000 in
theorem iHeadS_5 (zs zt : ByteArray) (x : Fr (Int × Int × ByteArray)) (p q : St) (X : Option Addr) (cx : Nat) (P : Option Addr) (cp : Nat) (Q : Option Addr) (cq : Nat) (w : World) (hz : zs.size ≤ 1048576) (ht0 : zt.size ≤ 1048576) (hxl : x.size ≤ 1048576) (hxq : FrOk qSmE x) (hX : Sl exprC w 0 w.heap.size X x) :
    Calls Tryz.prog 50 #[.agg #[.int .i64 5, .string zs, .string zt, .slice X x.len cx, .slice P p.len cp, .slice Q q.len cq]] w fun e w' => e = .returned (.bool (hereS ((5, zs, zt), x, p.len, q.len))) ∧ Below w.heap.size w w' := by
  have _ := hz
  have _ := ht0
  have B := Blk.new w 40 #[.int .i64 5, .string zs, .string zt, .slice X x.len cx, .slice P p.len cp, .slice Q q.len cq]
  have L0 := bl_alloc (Below.refl w.heap.size w) (.cells #[.int .i64 5, .string zs, .string zt, .slice X x.len cx, .slice P p.len cp, .slice Q q.len cq] 40)
  have hlen := x.len_size
  have CX := Lib.hid iExprOk
  have HQ := Lib.hid hxq
  have hR0 := fun (h : termsB x = true) => show hereS (((5 : Int), zs, zt), x, p.len, q.len) = headS 5 zs zt x p.len q.len from by unfold hereS; rw [h]; rfl
  have hR1 := fun (h : termsB x = false) => show hereS (((5 : Int), zs, zt), x, p.len, q.len) = false from by unfold hereS; rw [h]; rfl
  obtain ⟨G, hG⟩ : ∃ G, hereS (((5 : Int), zs, zt), x, p.len, q.len) = G := ⟨_, rfl⟩
  rw [hG] at hR0 hR1 ⊢
  have HR0 := Lib.hid hR0
  have HR1 := Lib.hid hR1
  clear hxq hR0 hR1 hG
  obtain ⟨R, hR⟩ : ∃ R, termsB x = R := ⟨_, rfl⟩
  have HR := Lib.hid hR
  clear hR
  go_enter Tryz.func50, Tryz.ntmps50
  go_wp2_with fail
  go_loopw [10] (fun i wr => ∃ k : Nat, k ≤ x.len ∧ i = .int .i64 k ∧ termsB (x.drop k) = R ∧ Blk wr w.heap.size 40 #[.int .i64 5, .string zs, .string zt, .slice X x.len cx, .slice P p.len cp, .slice Q q.len cq] ∧ Below w.heap.size w wr) (fun i _ => x.len - (intOf i).toNat)
  case atStart => exact ⟨0, Nat.zero_le _, rfl, by rw [Fr.drop_zero]; exact HR.out, B, L0⟩
  case round =>
    clear B L0
    obtain ⟨kk, hk, rfl, hE, B, L0⟩ := hrel
    by_cases hlt : kk < x.len
    · obtain ⟨b, o, a, k1, A1, c1, rfl, hb, hd, hks, hSk, q0, q1, q2, q3⟩ := at_Expr (hX.below L0 (Nat.le_refl _)) hlt
      have hqk := FrOk.drop kk HQ.out
      rw [hd] at hqk
      obtain ⟨hqa, _, hqk, _⟩ := hqk
      obtain ⟨yk, yn, ys⟩ := a
      simp only at q0 q1 q2
      have hlt' : (kk : Int) < (x.len : Int) := by omega
      have L1 := bl_alloc L0 (.cells #[.int .i64 yk, .int .i64 yn, .string ys, .slice A1 k1.len c1] 29)
      have B1 := B.alloc (.cells #[.int .i64 yk, .int .i64 yn, .string ys, .slice A1 k1.len c1] 29)
      have cZ := CX.out yk yn ys k1 A1 c1 (wr.alloc (.cells #[.int .i64 yk, .int .i64 yn, .string ys, .slice A1 k1.len c1] 29)) (by omega) hqa hqk ((hSk.below (B := wr.heap.size) (bl_alloc (Below.refl wr.heap.size wr) _) L0.size).more (Nat.le_refl _) L1.size)
      obtain ⟨z, hz⟩ : ∃ z, rightN cntE (yk, yn, ys) k1 = z := ⟨_, rfl⟩
      rw [hz] at cZ
      have CZ := Lib.hid cZ
      clear cZ
      cases z
      · have HG := Lib.hid (HR1.out (HR.out.trans (hE.symm.trans (termsB_no hd hz))))
        clear hd hz HR hqk hE HR0 HR1
        go_wp2_with fail
        refine CZ.out.mono ?_; rintro e w1 ⟨rfl, b1⟩
        go_wp2_with fail
        go_ret
        exact ⟨ret_bool HG.out.symm, bl_trans L1 b1⟩
      · have HN := Lib.hid ((termsB_yes hd hz).symm.trans hE)
        clear hd hz HR hqk hE HR0 HR1
        go_wp2_with fail
        refine CZ.out.mono ?_; rintro e w1 ⟨rfl, b1⟩
        go_wp2_with fail
        go_roundw
        case rel => exact ⟨kk + 1, by omega, by go_num, HN.out, B1.keep b1, bl_trans L1 b1⟩
        case measure => simp [intOf]; omega
    · obtain rfl : kk = x.len := by omega
      rw [Fr.drop_all] at hE
      have hG := HR0.out (HR.out.trans hE.symm)
      have HGG := Lib.hid hG
      clear hE HR HR0 HR1 CX HQ hG
      have p0 := B.cell
      have hwr := Nat.le_refl wr.heap.size
      cases ht : zt.toList.isEmpty
      · skip
        have HV := Lib.hid (show headS 5 zs zt x p.len q.len = false from by rw [headS_5, ht]; simp)
        go_wp2_with fail
        go_ret
        exact ⟨ret_bool ((HGG.out.trans HV.out).symm), L0⟩
      · skip
        cases he : zs.toList.isEmpty
        · skip
          have HV := Lib.hid (show headS 5 zs zt x p.len q.len = false from by rw [headS_5, ht, he]; simp)
          go_wp2_with fail
          go_ret
          exact ⟨ret_bool ((HGG.out.trans HV.out).symm), L0⟩
        · skip
          by_cases hx0 : x.len = 1
          · have gx : ((x.len : Int) == 1) = true := by simp [hx0]
            have hx0' : (x.len == 1) = true := by simp [hx0]
            have Hx := Lib.hid hx0
            clear hx0
            have HV := Lib.hid (show headS 5 zs zt x p.len q.len = true from by rw [headS_5, ht, he, hx0']; rfl)
            go_wp2_with fail
            go_ret
            exact ⟨ret_bool ((HGG.out.trans HV.out).symm), L0⟩
          · have gx : ((x.len : Int) == 1) = false := beq_eq_false_iff_ne.2 (by omega)
            have hx0' : (x.len == 1) = false := by simp [hx0]
            have Hx := Lib.hid hx0
            clear hx0
            have HV := Lib.hid (show headS 5 zs zt x p.len q.len = false from by rw [headS_5, ht, he, hx0']; simp)
            go_wp2_with fail
            go_ret
            exact ⟨ret_bool ((HGG.out.trans HV.out).symm), L0⟩

set_option maxHeartbeats 8000000 in
theorem iHeadS_6 (zs zt : ByteArray) (x : Fr (Int × Int × ByteArray)) (p q : St) (X : Option Addr) (cx : Nat) (P : Option Addr) (cp : Nat) (Q : Option Addr) (cq : Nat) (w : World) (hz : zs.size ≤ 1048576) (ht0 : zt.size ≤ 1048576) (hxl : x.size ≤ 1048576) (hxq : FrOk qSmE x) (hX : Sl exprC w 0 w.heap.size X x) :
    Calls Tryz.prog 50 #[.agg #[.int .i64 6, .string zs, .string zt, .slice X x.len cx, .slice P p.len cp, .slice Q q.len cq]] w fun e w' => e = .returned (.bool (hereS ((6, zs, zt), x, p.len, q.len))) ∧ Below w.heap.size w w' := by
  have _ := hz
  have _ := ht0
  have B := Blk.new w 40 #[.int .i64 6, .string zs, .string zt, .slice X x.len cx, .slice P p.len cp, .slice Q q.len cq]
  have L0 := bl_alloc (Below.refl w.heap.size w) (.cells #[.int .i64 6, .string zs, .string zt, .slice X x.len cx, .slice P p.len cp, .slice Q q.len cq] 40)
  have hlen := x.len_size
  have CX := Lib.hid iExprOk
  have HQ := Lib.hid hxq
  have hR0 := fun (h : termsB x = true) => show hereS (((6 : Int), zs, zt), x, p.len, q.len) = headS 6 zs zt x p.len q.len from by unfold hereS; rw [h]; rfl
  have hR1 := fun (h : termsB x = false) => show hereS (((6 : Int), zs, zt), x, p.len, q.len) = false from by unfold hereS; rw [h]; rfl
  obtain ⟨G, hG⟩ : ∃ G, hereS (((6 : Int), zs, zt), x, p.len, q.len) = G := ⟨_, rfl⟩
  rw [hG] at hR0 hR1 ⊢
  have HR0 := Lib.hid hR0
  have HR1 := Lib.hid hR1
  clear hxq hR0 hR1 hG
  obtain ⟨R, hR⟩ : ∃ R, termsB x = R := ⟨_, rfl⟩
  have HR := Lib.hid hR
  clear hR
  go_enter Tryz.func50, Tryz.ntmps50
  go_wp2_with fail
  go_loopw [10] (fun i wr => ∃ k : Nat, k ≤ x.len ∧ i = .int .i64 k ∧ termsB (x.drop k) = R ∧ Blk wr w.heap.size 40 #[.int .i64 6, .string zs, .string zt, .slice X x.len cx, .slice P p.len cp, .slice Q q.len cq] ∧ Below w.heap.size w wr) (fun i _ => x.len - (intOf i).toNat)
  case atStart => exact ⟨0, Nat.zero_le _, rfl, by rw [Fr.drop_zero]; exact HR.out, B, L0⟩
  case round =>
    clear B L0
    obtain ⟨kk, hk, rfl, hE, B, L0⟩ := hrel
    by_cases hlt : kk < x.len
    · obtain ⟨b, o, a, k1, A1, c1, rfl, hb, hd, hks, hSk, q0, q1, q2, q3⟩ := at_Expr (hX.below L0 (Nat.le_refl _)) hlt
      have hqk := FrOk.drop kk HQ.out
      rw [hd] at hqk
      obtain ⟨hqa, _, hqk, _⟩ := hqk
      obtain ⟨yk, yn, ys⟩ := a
      simp only at q0 q1 q2
      have hlt' : (kk : Int) < (x.len : Int) := by omega
      have L1 := bl_alloc L0 (.cells #[.int .i64 yk, .int .i64 yn, .string ys, .slice A1 k1.len c1] 29)
      have B1 := B.alloc (.cells #[.int .i64 yk, .int .i64 yn, .string ys, .slice A1 k1.len c1] 29)
      have cZ := CX.out yk yn ys k1 A1 c1 (wr.alloc (.cells #[.int .i64 yk, .int .i64 yn, .string ys, .slice A1 k1.len c1] 29)) (by omega) hqa hqk ((hSk.below (B := wr.heap.size) (bl_alloc (Below.refl wr.heap.size wr) _) L0.size).more (Nat.le_refl _) L1.size)
      obtain ⟨z, hz⟩ : ∃ z, rightN cntE (yk, yn, ys) k1 = z := ⟨_, rfl⟩
      rw [hz] at cZ
      have CZ := Lib.hid cZ
      clear cZ
      cases z
      · have HG := Lib.hid (HR1.out (HR.out.trans (hE.symm.trans (termsB_no hd hz))))
        clear hd hz HR hqk hE HR0 HR1
        go_wp2_with fail
        refine CZ.out.mono ?_; rintro e w1 ⟨rfl, b1⟩
        go_wp2_with fail
        go_ret
        exact ⟨ret_bool HG.out.symm, bl_trans L1 b1⟩
      · have HN := Lib.hid ((termsB_yes hd hz).symm.trans hE)
        clear hd hz HR hqk hE HR0 HR1
        go_wp2_with fail
        refine CZ.out.mono ?_; rintro e w1 ⟨rfl, b1⟩
        go_wp2_with fail
        go_roundw
        case rel => exact ⟨kk + 1, by omega, by go_num, HN.out, B1.keep b1, bl_trans L1 b1⟩
        case measure => simp [intOf]; omega
    · obtain rfl : kk = x.len := by omega
      rw [Fr.drop_all] at hE
      have hG := HR0.out (HR.out.trans hE.symm)
      have HGG := Lib.hid hG
      clear hE HR HR0 HR1 CX HQ hG
      have p0 := B.cell
      have hwr := Nat.le_refl wr.heap.size
      cases ht : zt.toList.isEmpty
      · skip
        have HV := Lib.hid (show headS 6 zs zt x p.len q.len = false from by rw [headS_6, ht]; simp)
        go_wp2_with fail
        go_ret
        exact ⟨ret_bool ((HGG.out.trans HV.out).symm), L0⟩
      · skip
        by_cases hq0 : q.len = 0
        · have gq : ((q.len : Int) == 0) = true := by simp [hq0]
          have hq0' : (q.len == 0) = true := by simp [hq0]
          have gq2 : ¬ (0 : Int) < (q.len : Int) := by omega
          have Hq := Lib.hid hq0
          clear hq0
          cases he : zs.toList.isEmpty
          · skip
            have HV := Lib.hid (show headS 6 zs zt x p.len q.len = false from by rw [headS_6, ht, hq0', he]; simp)
            go_wp2_with fail
            go_ret
            exact ⟨ret_bool ((HGG.out.trans HV.out).symm), L0⟩
          · skip
            by_cases hx0 : x.len = 1
            · have gx : ((x.len : Int) == 1) = true := by simp [hx0]
              have hx0' : (x.len == 1) = true := by simp [hx0]
              have Hx := Lib.hid hx0
              clear hx0
              have HV := Lib.hid (show headS 6 zs zt x p.len q.len = true from by rw [headS_6, ht, hq0', he, hx0']; rfl)
              go_wp2_with fail
              go_ret
              exact ⟨ret_bool ((HGG.out.trans HV.out).symm), L0⟩
            · have gx : ((x.len : Int) == 1) = false := beq_eq_false_iff_ne.2 (by omega)
              have hx0' : (x.len == 1) = false := by simp [hx0]
              have Hx := Lib.hid hx0
              clear hx0
              have HV := Lib.hid (show headS 6 zs zt x p.len q.len = false from by rw [headS_6, ht, hq0', he, hx0']; simp)
              go_wp2_with fail
              go_ret
              exact ⟨ret_bool ((HGG.out.trans HV.out).symm), L0⟩
        · have gq : ((q.len : Int) == 0) = false := beq_eq_false_iff_ne.2 (by omega)
          have hq0' : (q.len == 0) = false := by simp [hq0]
          have gq2 : (0 : Int) < (q.len : Int) := by omega
          have Hq := Lib.hid hq0
          clear hq0
          have HV := Lib.hid (show headS 6 zs zt x p.len q.len = false from by rw [headS_6, ht, hq0']; simp)
          go_wp2_with fail
          go_ret
          exact ⟨ret_bool ((HGG.out.trans HV.out).symm), L0⟩

set_option maxHeartbeats 8000000 in
theorem iHeadS_7 (zs zt : ByteArray) (x : Fr (Int × Int × ByteArray)) (p q : St) (X : Option Addr) (cx : Nat) (P : Option Addr) (cp : Nat) (Q : Option Addr) (cq : Nat) (w : World) (hz : zs.size ≤ 1048576) (ht0 : zt.size ≤ 1048576) (hxl : x.size ≤ 1048576) (hxq : FrOk qSmE x) (hX : Sl exprC w 0 w.heap.size X x) :
    Calls Tryz.prog 50 #[.agg #[.int .i64 7, .string zs, .string zt, .slice X x.len cx, .slice P p.len cp, .slice Q q.len cq]] w fun e w' => e = .returned (.bool (hereS ((7, zs, zt), x, p.len, q.len))) ∧ Below w.heap.size w w' := by
  have _ := hz
  have _ := ht0
  have B := Blk.new w 40 #[.int .i64 7, .string zs, .string zt, .slice X x.len cx, .slice P p.len cp, .slice Q q.len cq]
  have L0 := bl_alloc (Below.refl w.heap.size w) (.cells #[.int .i64 7, .string zs, .string zt, .slice X x.len cx, .slice P p.len cp, .slice Q q.len cq] 40)
  have hlen := x.len_size
  have CX := Lib.hid iExprOk
  have HQ := Lib.hid hxq
  have hR0 := fun (h : termsB x = true) => show hereS (((7 : Int), zs, zt), x, p.len, q.len) = headS 7 zs zt x p.len q.len from by unfold hereS; rw [h]; rfl
  have hR1 := fun (h : termsB x = false) => show hereS (((7 : Int), zs, zt), x, p.len, q.len) = false from by unfold hereS; rw [h]; rfl
  obtain ⟨G, hG⟩ : ∃ G, hereS (((7 : Int), zs, zt), x, p.len, q.len) = G := ⟨_, rfl⟩
  rw [hG] at hR0 hR1 ⊢
  have HR0 := Lib.hid hR0
  have HR1 := Lib.hid hR1
  clear hxq hR0 hR1 hG
  obtain ⟨R, hR⟩ : ∃ R, termsB x = R := ⟨_, rfl⟩
  have HR := Lib.hid hR
  clear hR
  go_enter Tryz.func50, Tryz.ntmps50
  go_wp2_with fail
  go_loopw [10] (fun i wr => ∃ k : Nat, k ≤ x.len ∧ i = .int .i64 k ∧ termsB (x.drop k) = R ∧ Blk wr w.heap.size 40 #[.int .i64 7, .string zs, .string zt, .slice X x.len cx, .slice P p.len cp, .slice Q q.len cq] ∧ Below w.heap.size w wr) (fun i _ => x.len - (intOf i).toNat)
  case atStart => exact ⟨0, Nat.zero_le _, rfl, by rw [Fr.drop_zero]; exact HR.out, B, L0⟩
  case round =>
    clear B L0
    obtain ⟨kk, hk, rfl, hE, B, L0⟩ := hrel
    by_cases hlt : kk < x.len
    · obtain ⟨b, o, a, k1, A1, c1, rfl, hb, hd, hks, hSk, q0, q1, q2, q3⟩ := at_Expr (hX.below L0 (Nat.le_refl _)) hlt
      have hqk := FrOk.drop kk HQ.out
      rw [hd] at hqk
      obtain ⟨hqa, _, hqk, _⟩ := hqk
      obtain ⟨yk, yn, ys⟩ := a
      simp only at q0 q1 q2
      have hlt' : (kk : Int) < (x.len : Int) := by omega
      have L1 := bl_alloc L0 (.cells #[.int .i64 yk, .int .i64 yn, .string ys, .slice A1 k1.len c1] 29)
      have B1 := B.alloc (.cells #[.int .i64 yk, .int .i64 yn, .string ys, .slice A1 k1.len c1] 29)
      have cZ := CX.out yk yn ys k1 A1 c1 (wr.alloc (.cells #[.int .i64 yk, .int .i64 yn, .string ys, .slice A1 k1.len c1] 29)) (by omega) hqa hqk ((hSk.below (B := wr.heap.size) (bl_alloc (Below.refl wr.heap.size wr) _) L0.size).more (Nat.le_refl _) L1.size)
      obtain ⟨z, hz⟩ : ∃ z, rightN cntE (yk, yn, ys) k1 = z := ⟨_, rfl⟩
      rw [hz] at cZ
      have CZ := Lib.hid cZ
      clear cZ
      cases z
      · have HG := Lib.hid (HR1.out (HR.out.trans (hE.symm.trans (termsB_no hd hz))))
        clear hd hz HR hqk hE HR0 HR1
        go_wp2_with fail
        refine CZ.out.mono ?_; rintro e w1 ⟨rfl, b1⟩
        go_wp2_with fail
        go_ret
        exact ⟨ret_bool HG.out.symm, bl_trans L1 b1⟩
      · have HN := Lib.hid ((termsB_yes hd hz).symm.trans hE)
        clear hd hz HR hqk hE HR0 HR1
        go_wp2_with fail
        refine CZ.out.mono ?_; rintro e w1 ⟨rfl, b1⟩
        go_wp2_with fail
        go_roundw
        case rel => exact ⟨kk + 1, by omega, by go_num, HN.out, B1.keep b1, bl_trans L1 b1⟩
        case measure => simp [intOf]; omega
    · obtain rfl : kk = x.len := by omega
      rw [Fr.drop_all] at hE
      have hG := HR0.out (HR.out.trans hE.symm)
      have HGG := Lib.hid hG
      clear hE HR HR0 HR1 CX HQ hG
      have p0 := B.cell
      have hwr := Nat.le_refl wr.heap.size
      by_cases hq0 : q.len = 0
      · have gq : ((q.len : Int) == 0) = true := by simp [hq0]
        have hq0' : (q.len == 0) = true := by simp [hq0]
        have gq2 : ¬ (0 : Int) < (q.len : Int) := by omega
        have Hq := Lib.hid hq0
        clear hq0
        cases he : zs.toList.isEmpty
        · skip
          have c1 := fun w => iNameOk zs w (by omega)
          obtain ⟨q1, hb1⟩ : ∃ q, nameOkB zs = q := ⟨_, rfl⟩
          rw [hb1] at c1
          have C1 := Lib.hid c1
          clear c1
          go_wp2_with fail
          refine (C1.out _).mono ?_; rintro e w1 ⟨rfl, b1⟩
          have L1 := bl_trans L0 b1
          have B1 := B.keep b1
          have p1 := B1.cell
          cases q1
          · skip
            have HV := Lib.hid (show headS 7 zs zt x p.len q.len = false from by rw [headS_7, hq0', hb1]; simp)
            go_wp2_with fail
            go_ret
            exact ⟨ret_bool ((HGG.out.trans HV.out).symm), L1⟩
          · skip
            have c2 := fun w => iNameOk zt w (by omega)
            obtain ⟨q2, hb2⟩ : ∃ q, nameOkB zt = q := ⟨_, rfl⟩
            rw [hb2] at c2
            have C2 := Lib.hid c2
            clear c2
            go_wp2_with fail
            refine (C2.out _).mono ?_; rintro e w2 ⟨rfl, b2⟩
            have L2 := bl_trans L1 b2
            have B2 := B1.keep b2
            have p2 := B2.cell
            cases q2
            · skip
              have HV := Lib.hid (show headS 7 zs zt x p.len q.len = false from by rw [headS_7, hq0', hb1, hb2]; simp)
              go_wp2_with fail
              go_ret
              exact ⟨ret_bool ((HGG.out.trans HV.out).symm), L2⟩
            · skip
              by_cases hx0 : x.len = 0
              · have gx : ((x.len : Int) == 0) = true := by simp [hx0]
                have hx0' : (x.len == 0) = true := by simp [hx0]
                have Hx := Lib.hid hx0
                clear hx0
                have HV := Lib.hid (show headS 7 zs zt x p.len q.len = true from by rw [headS_7, hq0', hb1, hb2, hx0']; rfl)
                go_wp2_with fail
                go_ret
                exact ⟨ret_bool ((HGG.out.trans HV.out).symm), L2⟩
              · have gx : ((x.len : Int) == 0) = false := beq_eq_false_iff_ne.2 (by omega)
                have hx0' : (x.len == 0) = false := by simp [hx0]
                have Hx := Lib.hid hx0
                clear hx0
                have HV := Lib.hid (show headS 7 zs zt x p.len q.len = false from by rw [headS_7, hq0', hb1, hb2, hx0']; simp)
                go_wp2_with fail
                go_ret
                exact ⟨ret_bool ((HGG.out.trans HV.out).symm), L2⟩
        · have hne := nameOkB_nil he
          have HV := Lib.hid (show headS 7 zs zt x p.len q.len = false from by rw [headS_7, hq0', hne]; simp)
          go_wp2_with fail
          go_ret
          exact ⟨ret_bool ((HGG.out.trans HV.out).symm), L0⟩
      · have gq : ((q.len : Int) == 0) = false := beq_eq_false_iff_ne.2 (by omega)
        have hq0' : (q.len == 0) = false := by simp [hq0]
        have gq2 : (0 : Int) < (q.len : Int) := by omega
        have Hq := Lib.hid hq0
        clear hq0
        have HV := Lib.hid (show headS 7 zs zt x p.len q.len = false from by rw [headS_7, hq0']; simp)
        go_wp2_with fail
        go_ret
        exact ⟨ret_bool ((HGG.out.trans HV.out).symm), L0⟩

set_option maxHeartbeats 8000000 in
theorem iHeadS_8 (zs zt : ByteArray) (x : Fr (Int × Int × ByteArray)) (p q : St) (X : Option Addr) (cx : Nat) (P : Option Addr) (cp : Nat) (Q : Option Addr) (cq : Nat) (w : World) (hz : zs.size ≤ 1048576) (ht0 : zt.size ≤ 1048576) (hxl : x.size ≤ 1048576) (hxq : FrOk qSmE x) (hX : Sl exprC w 0 w.heap.size X x) :
    Calls Tryz.prog 50 #[.agg #[.int .i64 8, .string zs, .string zt, .slice X x.len cx, .slice P p.len cp, .slice Q q.len cq]] w fun e w' => e = .returned (.bool (hereS ((8, zs, zt), x, p.len, q.len))) ∧ Below w.heap.size w w' := by
  have _ := hz
  have _ := ht0
  have B := Blk.new w 40 #[.int .i64 8, .string zs, .string zt, .slice X x.len cx, .slice P p.len cp, .slice Q q.len cq]
  have L0 := bl_alloc (Below.refl w.heap.size w) (.cells #[.int .i64 8, .string zs, .string zt, .slice X x.len cx, .slice P p.len cp, .slice Q q.len cq] 40)
  have hlen := x.len_size
  have CX := Lib.hid iExprOk
  have HQ := Lib.hid hxq
  have hR0 := fun (h : termsB x = true) => show hereS (((8 : Int), zs, zt), x, p.len, q.len) = headS 8 zs zt x p.len q.len from by unfold hereS; rw [h]; rfl
  have hR1 := fun (h : termsB x = false) => show hereS (((8 : Int), zs, zt), x, p.len, q.len) = false from by unfold hereS; rw [h]; rfl
  obtain ⟨G, hG⟩ : ∃ G, hereS (((8 : Int), zs, zt), x, p.len, q.len) = G := ⟨_, rfl⟩
  rw [hG] at hR0 hR1 ⊢
  have HR0 := Lib.hid hR0
  have HR1 := Lib.hid hR1
  clear hxq hR0 hR1 hG
  obtain ⟨R, hR⟩ : ∃ R, termsB x = R := ⟨_, rfl⟩
  have HR := Lib.hid hR
  clear hR
  go_enter Tryz.func50, Tryz.ntmps50
  go_wp2_with fail
  go_loopw [10] (fun i wr => ∃ k : Nat, k ≤ x.len ∧ i = .int .i64 k ∧ termsB (x.drop k) = R ∧ Blk wr w.heap.size 40 #[.int .i64 8, .string zs, .string zt, .slice X x.len cx, .slice P p.len cp, .slice Q q.len cq] ∧ Below w.heap.size w wr) (fun i _ => x.len - (intOf i).toNat)
  case atStart => exact ⟨0, Nat.zero_le _, rfl, by rw [Fr.drop_zero]; exact HR.out, B, L0⟩
  case round =>
    clear B L0
    obtain ⟨kk, hk, rfl, hE, B, L0⟩ := hrel
    by_cases hlt : kk < x.len
    · obtain ⟨b, o, a, k1, A1, c1, rfl, hb, hd, hks, hSk, q0, q1, q2, q3⟩ := at_Expr (hX.below L0 (Nat.le_refl _)) hlt
      have hqk := FrOk.drop kk HQ.out
      rw [hd] at hqk
      obtain ⟨hqa, _, hqk, _⟩ := hqk
      obtain ⟨yk, yn, ys⟩ := a
      simp only at q0 q1 q2
      have hlt' : (kk : Int) < (x.len : Int) := by omega
      have L1 := bl_alloc L0 (.cells #[.int .i64 yk, .int .i64 yn, .string ys, .slice A1 k1.len c1] 29)
      have B1 := B.alloc (.cells #[.int .i64 yk, .int .i64 yn, .string ys, .slice A1 k1.len c1] 29)
      have cZ := CX.out yk yn ys k1 A1 c1 (wr.alloc (.cells #[.int .i64 yk, .int .i64 yn, .string ys, .slice A1 k1.len c1] 29)) (by omega) hqa hqk ((hSk.below (B := wr.heap.size) (bl_alloc (Below.refl wr.heap.size wr) _) L0.size).more (Nat.le_refl _) L1.size)
      obtain ⟨z, hz⟩ : ∃ z, rightN cntE (yk, yn, ys) k1 = z := ⟨_, rfl⟩
      rw [hz] at cZ
      have CZ := Lib.hid cZ
      clear cZ
      cases z
      · have HG := Lib.hid (HR1.out (HR.out.trans (hE.symm.trans (termsB_no hd hz))))
        clear hd hz HR hqk hE HR0 HR1
        go_wp2_with fail
        refine CZ.out.mono ?_; rintro e w1 ⟨rfl, b1⟩
        go_wp2_with fail
        go_ret
        exact ⟨ret_bool HG.out.symm, bl_trans L1 b1⟩
      · have HN := Lib.hid ((termsB_yes hd hz).symm.trans hE)
        clear hd hz HR hqk hE HR0 HR1
        go_wp2_with fail
        refine CZ.out.mono ?_; rintro e w1 ⟨rfl, b1⟩
        go_wp2_with fail
        go_roundw
        case rel => exact ⟨kk + 1, by omega, by go_num, HN.out, B1.keep b1, bl_trans L1 b1⟩
        case measure => simp [intOf]; omega
    · obtain rfl : kk = x.len := by omega
      rw [Fr.drop_all] at hE
      have hG := HR0.out (HR.out.trans hE.symm)
      have HGG := Lib.hid hG
      clear hE HR HR0 HR1 CX HQ hG
      have p0 := B.cell
      have hwr := Nat.le_refl wr.heap.size
      cases ht : zt.toList.isEmpty
      · skip
        have HV := Lib.hid (show headS 8 zs zt x p.len q.len = false from by rw [headS_8, ht]; simp)
        go_wp2_with fail
        go_ret
        exact ⟨ret_bool ((HGG.out.trans HV.out).symm), L0⟩
      · skip
        by_cases hq0 : q.len = 0
        · have gq : ((q.len : Int) == 0) = true := by simp [hq0]
          have hq0' : (q.len == 0) = true := by simp [hq0]
          have gq2 : ¬ (0 : Int) < (q.len : Int) := by omega
          have Hq := Lib.hid hq0
          clear hq0
          by_cases hp0 : p.len = 0
          · have gp : ((p.len : Int) == 0) = true := by simp [hp0]
            have hp0' : (p.len == 0) = true := by simp [hp0]
            have gp2 : ¬ (0 : Int) < (p.len : Int) := by omega
            have Hp := Lib.hid hp0
            clear hp0
            cases he : zs.toList.isEmpty
            · skip
              have HV := Lib.hid (show headS 8 zs zt x p.len q.len = false from by rw [headS_8, ht, hq0', hp0', he]; simp)
              go_wp2_with fail
              go_ret
              exact ⟨ret_bool ((HGG.out.trans HV.out).symm), L0⟩
            · skip
              by_cases hx0 : x.len = 0
              · have gx : ((x.len : Int) == 0) = true := by simp [hx0]
                have hx0' : (x.len == 0) = true := by simp [hx0]
                have Hx := Lib.hid hx0
                clear hx0
                have HV := Lib.hid (show headS 8 zs zt x p.len q.len = true from by rw [headS_8, ht, hq0', hp0', he, hx0']; rfl)
                go_wp2_with fail
                go_ret
                exact ⟨ret_bool ((HGG.out.trans HV.out).symm), L0⟩
              · have gx : ((x.len : Int) == 0) = false := beq_eq_false_iff_ne.2 (by omega)
                have hx0' : (x.len == 0) = false := by simp [hx0]
                have Hx := Lib.hid hx0
                clear hx0
                have HV := Lib.hid (show headS 8 zs zt x p.len q.len = false from by rw [headS_8, ht, hq0', hp0', he, hx0']; simp)
                go_wp2_with fail
                go_ret
                exact ⟨ret_bool ((HGG.out.trans HV.out).symm), L0⟩
          · have gp : ((p.len : Int) == 0) = false := beq_eq_false_iff_ne.2 (by omega)
            have hp0' : (p.len == 0) = false := by simp [hp0]
            have gp2 : (0 : Int) < (p.len : Int) := by omega
            have Hp := Lib.hid hp0
            clear hp0
            have HV := Lib.hid (show headS 8 zs zt x p.len q.len = false from by rw [headS_8, ht, hq0', hp0']; simp)
            go_wp2_with fail
            go_ret
            exact ⟨ret_bool ((HGG.out.trans HV.out).symm), L0⟩
        · have gq : ((q.len : Int) == 0) = false := beq_eq_false_iff_ne.2 (by omega)
          have hq0' : (q.len == 0) = false := by simp [hq0]
          have gq2 : (0 : Int) < (q.len : Int) := by omega
          have Hq := Lib.hid hq0
          clear hq0
          have HV := Lib.hid (show headS 8 zs zt x p.len q.len = false from by rw [headS_8, ht, hq0']; simp)
          go_wp2_with fail
          go_ret
          exact ⟨ret_bool ((HGG.out.trans HV.out).symm), L0⟩

set_option maxHeartbeats 8000000 in
theorem iHeadS_9 (zs zt : ByteArray) (x : Fr (Int × Int × ByteArray)) (p q : St) (X : Option Addr) (cx : Nat) (P : Option Addr) (cp : Nat) (Q : Option Addr) (cq : Nat) (w : World) (hz : zs.size ≤ 1048576) (ht0 : zt.size ≤ 1048576) (hxl : x.size ≤ 1048576) (hxq : FrOk qSmE x) (hX : Sl exprC w 0 w.heap.size X x) :
    Calls Tryz.prog 50 #[.agg #[.int .i64 9, .string zs, .string zt, .slice X x.len cx, .slice P p.len cp, .slice Q q.len cq]] w fun e w' => e = .returned (.bool (hereS ((9, zs, zt), x, p.len, q.len))) ∧ Below w.heap.size w w' := by
  have _ := hz
  have _ := ht0
  have B := Blk.new w 40 #[.int .i64 9, .string zs, .string zt, .slice X x.len cx, .slice P p.len cp, .slice Q q.len cq]
  have L0 := bl_alloc (Below.refl w.heap.size w) (.cells #[.int .i64 9, .string zs, .string zt, .slice X x.len cx, .slice P p.len cp, .slice Q q.len cq] 40)
  have hlen := x.len_size
  have CX := Lib.hid iExprOk
  have HQ := Lib.hid hxq
  have hR0 := fun (h : termsB x = true) => show hereS (((9 : Int), zs, zt), x, p.len, q.len) = headS 9 zs zt x p.len q.len from by unfold hereS; rw [h]; rfl
  have hR1 := fun (h : termsB x = false) => show hereS (((9 : Int), zs, zt), x, p.len, q.len) = false from by unfold hereS; rw [h]; rfl
  obtain ⟨G, hG⟩ : ∃ G, hereS (((9 : Int), zs, zt), x, p.len, q.len) = G := ⟨_, rfl⟩
  rw [hG] at hR0 hR1 ⊢
  have HR0 := Lib.hid hR0
  have HR1 := Lib.hid hR1
  clear hxq hR0 hR1 hG
  obtain ⟨R, hR⟩ : ∃ R, termsB x = R := ⟨_, rfl⟩
  have HR := Lib.hid hR
  clear hR
  go_enter Tryz.func50, Tryz.ntmps50
  go_wp2_with fail
  go_loopw [10] (fun i wr => ∃ k : Nat, k ≤ x.len ∧ i = .int .i64 k ∧ termsB (x.drop k) = R ∧ Blk wr w.heap.size 40 #[.int .i64 9, .string zs, .string zt, .slice X x.len cx, .slice P p.len cp, .slice Q q.len cq] ∧ Below w.heap.size w wr) (fun i _ => x.len - (intOf i).toNat)
  case atStart => exact ⟨0, Nat.zero_le _, rfl, by rw [Fr.drop_zero]; exact HR.out, B, L0⟩
  case round =>
    clear B L0
    obtain ⟨kk, hk, rfl, hE, B, L0⟩ := hrel
    by_cases hlt : kk < x.len
    · obtain ⟨b, o, a, k1, A1, c1, rfl, hb, hd, hks, hSk, q0, q1, q2, q3⟩ := at_Expr (hX.below L0 (Nat.le_refl _)) hlt
      have hqk := FrOk.drop kk HQ.out
      rw [hd] at hqk
      obtain ⟨hqa, _, hqk, _⟩ := hqk
      obtain ⟨yk, yn, ys⟩ := a
      simp only at q0 q1 q2
      have hlt' : (kk : Int) < (x.len : Int) := by omega
      have L1 := bl_alloc L0 (.cells #[.int .i64 yk, .int .i64 yn, .string ys, .slice A1 k1.len c1] 29)
      have B1 := B.alloc (.cells #[.int .i64 yk, .int .i64 yn, .string ys, .slice A1 k1.len c1] 29)
      have cZ := CX.out yk yn ys k1 A1 c1 (wr.alloc (.cells #[.int .i64 yk, .int .i64 yn, .string ys, .slice A1 k1.len c1] 29)) (by omega) hqa hqk ((hSk.below (B := wr.heap.size) (bl_alloc (Below.refl wr.heap.size wr) _) L0.size).more (Nat.le_refl _) L1.size)
      obtain ⟨z, hz⟩ : ∃ z, rightN cntE (yk, yn, ys) k1 = z := ⟨_, rfl⟩
      rw [hz] at cZ
      have CZ := Lib.hid cZ
      clear cZ
      cases z
      · have HG := Lib.hid (HR1.out (HR.out.trans (hE.symm.trans (termsB_no hd hz))))
        clear hd hz HR hqk hE HR0 HR1
        go_wp2_with fail
        refine CZ.out.mono ?_; rintro e w1 ⟨rfl, b1⟩
        go_wp2_with fail
        go_ret
        exact ⟨ret_bool HG.out.symm, bl_trans L1 b1⟩
      · have HN := Lib.hid ((termsB_yes hd hz).symm.trans hE)
        clear hd hz HR hqk hE HR0 HR1
        go_wp2_with fail
        refine CZ.out.mono ?_; rintro e w1 ⟨rfl, b1⟩
        go_wp2_with fail
        go_roundw
        case rel => exact ⟨kk + 1, by omega, by go_num, HN.out, B1.keep b1, bl_trans L1 b1⟩
        case measure => simp [intOf]; omega
    · obtain rfl : kk = x.len := by omega
      rw [Fr.drop_all] at hE
      have hG := HR0.out (HR.out.trans hE.symm)
      have HGG := Lib.hid hG
      clear hE HR HR0 HR1 CX HQ hG
      have p0 := B.cell
      have hwr := Nat.le_refl wr.heap.size
      cases ht : zt.toList.isEmpty
      · skip
        have HV := Lib.hid (show headS 9 zs zt x p.len q.len = false from by rw [headS_9, ht]; simp)
        go_wp2_with fail
        go_ret
        exact ⟨ret_bool ((HGG.out.trans HV.out).symm), L0⟩
      · skip
        by_cases hq0 : q.len = 0
        · have gq : ((q.len : Int) == 0) = true := by simp [hq0]
          have hq0' : (q.len == 0) = true := by simp [hq0]
          have gq2 : ¬ (0 : Int) < (q.len : Int) := by omega
          have Hq := Lib.hid hq0
          clear hq0
          by_cases hp0 : p.len = 0
          · have gp : ((p.len : Int) == 0) = true := by simp [hp0]
            have hp0' : (p.len == 0) = true := by simp [hp0]
            have gp2 : ¬ (0 : Int) < (p.len : Int) := by omega
            have Hp := Lib.hid hp0
            clear hp0
            cases he : zs.toList.isEmpty
            · skip
              have HV := Lib.hid (show headS 9 zs zt x p.len q.len = false from by rw [headS_9, ht, hq0', hp0', he]; simp)
              go_wp2_with fail
              go_ret
              exact ⟨ret_bool ((HGG.out.trans HV.out).symm), L0⟩
            · skip
              by_cases hx0 : x.len = 1
              · have gx : ((x.len : Int) == 1) = true := by simp [hx0]
                have hx0' : (x.len == 1) = true := by simp [hx0]
                have Hx := Lib.hid hx0
                clear hx0
                have HV := Lib.hid (show headS 9 zs zt x p.len q.len = true from by rw [headS_9, ht, hq0', hp0', he, hx0']; rfl)
                go_wp2_with fail
                go_ret
                exact ⟨ret_bool ((HGG.out.trans HV.out).symm), L0⟩
              · have gx : ((x.len : Int) == 1) = false := beq_eq_false_iff_ne.2 (by omega)
                have hx0' : (x.len == 1) = false := by simp [hx0]
                have Hx := Lib.hid hx0
                clear hx0
                have HV := Lib.hid (show headS 9 zs zt x p.len q.len = false from by rw [headS_9, ht, hq0', hp0', he, hx0']; simp)
                go_wp2_with fail
                go_ret
                exact ⟨ret_bool ((HGG.out.trans HV.out).symm), L0⟩
          · have gp : ((p.len : Int) == 0) = false := beq_eq_false_iff_ne.2 (by omega)
            have hp0' : (p.len == 0) = false := by simp [hp0]
            have gp2 : (0 : Int) < (p.len : Int) := by omega
            have Hp := Lib.hid hp0
            clear hp0
            have HV := Lib.hid (show headS 9 zs zt x p.len q.len = false from by rw [headS_9, ht, hq0', hp0']; simp)
            go_wp2_with fail
            go_ret
            exact ⟨ret_bool ((HGG.out.trans HV.out).symm), L0⟩
        · have gq : ((q.len : Int) == 0) = false := beq_eq_false_iff_ne.2 (by omega)
          have hq0' : (q.len == 0) = false := by simp [hq0]
          have gq2 : (0 : Int) < (q.len : Int) := by omega
          have Hq := Lib.hid hq0
          clear hq0
          have HV := Lib.hid (show headS 9 zs zt x p.len q.len = false from by rw [headS_9, ht, hq0']; simp)
          go_wp2_with fail
          go_ret
          exact ⟨ret_bool ((HGG.out.trans HV.out).symm), L0⟩

set_option maxHeartbeats 8000000 in
theorem iHeadS_10 (zs zt : ByteArray) (x : Fr (Int × Int × ByteArray)) (p q : St) (X : Option Addr) (cx : Nat) (P : Option Addr) (cp : Nat) (Q : Option Addr) (cq : Nat) (w : World) (hz : zs.size ≤ 1048576) (ht0 : zt.size ≤ 1048576) (hxl : x.size ≤ 1048576) (hxq : FrOk qSmE x) (hX : Sl exprC w 0 w.heap.size X x) :
    Calls Tryz.prog 50 #[.agg #[.int .i64 10, .string zs, .string zt, .slice X x.len cx, .slice P p.len cp, .slice Q q.len cq]] w fun e w' => e = .returned (.bool (hereS ((10, zs, zt), x, p.len, q.len))) ∧ Below w.heap.size w w' := by
  have _ := hz
  have _ := ht0
  have B := Blk.new w 40 #[.int .i64 10, .string zs, .string zt, .slice X x.len cx, .slice P p.len cp, .slice Q q.len cq]
  have L0 := bl_alloc (Below.refl w.heap.size w) (.cells #[.int .i64 10, .string zs, .string zt, .slice X x.len cx, .slice P p.len cp, .slice Q q.len cq] 40)
  have hlen := x.len_size
  have CX := Lib.hid iExprOk
  have HQ := Lib.hid hxq
  have hR0 := fun (h : termsB x = true) => show hereS (((10 : Int), zs, zt), x, p.len, q.len) = headS 10 zs zt x p.len q.len from by unfold hereS; rw [h]; rfl
  have hR1 := fun (h : termsB x = false) => show hereS (((10 : Int), zs, zt), x, p.len, q.len) = false from by unfold hereS; rw [h]; rfl
  obtain ⟨G, hG⟩ : ∃ G, hereS (((10 : Int), zs, zt), x, p.len, q.len) = G := ⟨_, rfl⟩
  rw [hG] at hR0 hR1 ⊢
  have HR0 := Lib.hid hR0
  have HR1 := Lib.hid hR1
  clear hxq hR0 hR1 hG
  obtain ⟨R, hR⟩ : ∃ R, termsB x = R := ⟨_, rfl⟩
  have HR := Lib.hid hR
  clear hR
  go_enter Tryz.func50, Tryz.ntmps50
  go_wp2_with fail
  go_loopw [10] (fun i wr => ∃ k : Nat, k ≤ x.len ∧ i = .int .i64 k ∧ termsB (x.drop k) = R ∧ Blk wr w.heap.size 40 #[.int .i64 10, .string zs, .string zt, .slice X x.len cx, .slice P p.len cp, .slice Q q.len cq] ∧ Below w.heap.size w wr) (fun i _ => x.len - (intOf i).toNat)
  case atStart => exact ⟨0, Nat.zero_le _, rfl, by rw [Fr.drop_zero]; exact HR.out, B, L0⟩
  case round =>
    clear B L0
    obtain ⟨kk, hk, rfl, hE, B, L0⟩ := hrel
    by_cases hlt : kk < x.len
    · obtain ⟨b, o, a, k1, A1, c1, rfl, hb, hd, hks, hSk, q0, q1, q2, q3⟩ := at_Expr (hX.below L0 (Nat.le_refl _)) hlt
      have hqk := FrOk.drop kk HQ.out
      rw [hd] at hqk
      obtain ⟨hqa, _, hqk, _⟩ := hqk
      obtain ⟨yk, yn, ys⟩ := a
      simp only at q0 q1 q2
      have hlt' : (kk : Int) < (x.len : Int) := by omega
      have L1 := bl_alloc L0 (.cells #[.int .i64 yk, .int .i64 yn, .string ys, .slice A1 k1.len c1] 29)
      have B1 := B.alloc (.cells #[.int .i64 yk, .int .i64 yn, .string ys, .slice A1 k1.len c1] 29)
      have cZ := CX.out yk yn ys k1 A1 c1 (wr.alloc (.cells #[.int .i64 yk, .int .i64 yn, .string ys, .slice A1 k1.len c1] 29)) (by omega) hqa hqk ((hSk.below (B := wr.heap.size) (bl_alloc (Below.refl wr.heap.size wr) _) L0.size).more (Nat.le_refl _) L1.size)
      obtain ⟨z, hz⟩ : ∃ z, rightN cntE (yk, yn, ys) k1 = z := ⟨_, rfl⟩
      rw [hz] at cZ
      have CZ := Lib.hid cZ
      clear cZ
      cases z
      · have HG := Lib.hid (HR1.out (HR.out.trans (hE.symm.trans (termsB_no hd hz))))
        clear hd hz HR hqk hE HR0 HR1
        go_wp2_with fail
        refine CZ.out.mono ?_; rintro e w1 ⟨rfl, b1⟩
        go_wp2_with fail
        go_ret
        exact ⟨ret_bool HG.out.symm, bl_trans L1 b1⟩
      · have HN := Lib.hid ((termsB_yes hd hz).symm.trans hE)
        clear hd hz HR hqk hE HR0 HR1
        go_wp2_with fail
        refine CZ.out.mono ?_; rintro e w1 ⟨rfl, b1⟩
        go_wp2_with fail
        go_roundw
        case rel => exact ⟨kk + 1, by omega, by go_num, HN.out, B1.keep b1, bl_trans L1 b1⟩
        case measure => simp [intOf]; omega
    · obtain rfl : kk = x.len := by omega
      rw [Fr.drop_all] at hE
      have hG := HR0.out (HR.out.trans hE.symm)
      have HGG := Lib.hid hG
      clear hE HR HR0 HR1 CX HQ hG
      have p0 := B.cell
      have hwr := Nat.le_refl wr.heap.size
      cases ht : zt.toList.isEmpty
      · skip
        have HV := Lib.hid (show headS 10 zs zt x p.len q.len = false from by rw [headS_10, ht]; simp)
        go_wp2_with fail
        go_ret
        exact ⟨ret_bool ((HGG.out.trans HV.out).symm), L0⟩
      · skip
        by_cases hq0 : q.len = 0
        · have gq : ((q.len : Int) == 0) = true := by simp [hq0]
          have hq0' : (q.len == 0) = true := by simp [hq0]
          have gq2 : ¬ (0 : Int) < (q.len : Int) := by omega
          have Hq := Lib.hid hq0
          clear hq0
          by_cases hp0 : p.len = 0
          · have gp : ((p.len : Int) == 0) = true := by simp [hp0]
            have hp0' : (p.len == 0) = true := by simp [hp0]
            have gp2 : ¬ (0 : Int) < (p.len : Int) := by omega
            have Hp := Lib.hid hp0
            clear hp0
            cases he : zs.toList.isEmpty
            · skip
              have HV := Lib.hid (show headS 10 zs zt x p.len q.len = false from by rw [headS_10, ht, hq0', hp0', he]; simp)
              go_wp2_with fail
              go_ret
              exact ⟨ret_bool ((HGG.out.trans HV.out).symm), L0⟩
            · skip
              by_cases hx0 : x.len = 1
              · have gx : ((x.len : Int) == 1) = true := by simp [hx0]
                have hx0' : (x.len == 1) = true := by simp [hx0]
                have Hx := Lib.hid hx0
                clear hx0
                have HV := Lib.hid (show headS 10 zs zt x p.len q.len = true from by rw [headS_10, ht, hq0', hp0', he, hx0']; rfl)
                go_wp2_with fail
                go_ret
                exact ⟨ret_bool ((HGG.out.trans HV.out).symm), L0⟩
              · have gx : ((x.len : Int) == 1) = false := beq_eq_false_iff_ne.2 (by omega)
                have hx0' : (x.len == 1) = false := by simp [hx0]
                have Hx := Lib.hid hx0
                clear hx0
                have HV := Lib.hid (show headS 10 zs zt x p.len q.len = false from by rw [headS_10, ht, hq0', hp0', he, hx0']; simp)
                go_wp2_with fail
                go_ret
                exact ⟨ret_bool ((HGG.out.trans HV.out).symm), L0⟩
          · have gp : ((p.len : Int) == 0) = false := beq_eq_false_iff_ne.2 (by omega)
            have hp0' : (p.len == 0) = false := by simp [hp0]
            have gp2 : (0 : Int) < (p.len : Int) := by omega
            have Hp := Lib.hid hp0
            clear hp0
            have HV := Lib.hid (show headS 10 zs zt x p.len q.len = false from by rw [headS_10, ht, hq0', hp0']; simp)
            go_wp2_with fail
            go_ret
            exact ⟨ret_bool ((HGG.out.trans HV.out).symm), L0⟩
        · have gq : ((q.len : Int) == 0) = false := beq_eq_false_iff_ne.2 (by omega)
          have hq0' : (q.len == 0) = false := by simp [hq0]
          have gq2 : (0 : Int) < (q.len : Int) := by omega
          have Hq := Lib.hid hq0
          clear hq0
          have HV := Lib.hid (show headS 10 zs zt x p.len q.len = false from by rw [headS_10, ht, hq0']; simp)
          go_wp2_with fail
          go_ret
          exact ⟨ret_bool ((HGG.out.trans HV.out).symm), L0⟩

set_option maxHeartbeats 8000000 in
theorem iHeadS_11 (zs zt : ByteArray) (x : Fr (Int × Int × ByteArray)) (p q : St) (X : Option Addr) (cx : Nat) (P : Option Addr) (cp : Nat) (Q : Option Addr) (cq : Nat) (w : World) (hz : zs.size ≤ 1048576) (ht0 : zt.size ≤ 1048576) (hxl : x.size ≤ 1048576) (hxq : FrOk qSmE x) (hX : Sl exprC w 0 w.heap.size X x) :
    Calls Tryz.prog 50 #[.agg #[.int .i64 11, .string zs, .string zt, .slice X x.len cx, .slice P p.len cp, .slice Q q.len cq]] w fun e w' => e = .returned (.bool (hereS ((11, zs, zt), x, p.len, q.len))) ∧ Below w.heap.size w w' := by
  have _ := hz
  have _ := ht0
  have B := Blk.new w 40 #[.int .i64 11, .string zs, .string zt, .slice X x.len cx, .slice P p.len cp, .slice Q q.len cq]
  have L0 := bl_alloc (Below.refl w.heap.size w) (.cells #[.int .i64 11, .string zs, .string zt, .slice X x.len cx, .slice P p.len cp, .slice Q q.len cq] 40)
  have hlen := x.len_size
  have CX := Lib.hid iExprOk
  have HQ := Lib.hid hxq
  have hR0 := fun (h : termsB x = true) => show hereS (((11 : Int), zs, zt), x, p.len, q.len) = headS 11 zs zt x p.len q.len from by unfold hereS; rw [h]; rfl
  have hR1 := fun (h : termsB x = false) => show hereS (((11 : Int), zs, zt), x, p.len, q.len) = false from by unfold hereS; rw [h]; rfl
  obtain ⟨G, hG⟩ : ∃ G, hereS (((11 : Int), zs, zt), x, p.len, q.len) = G := ⟨_, rfl⟩
  rw [hG] at hR0 hR1 ⊢
  have HR0 := Lib.hid hR0
  have HR1 := Lib.hid hR1
  clear hxq hR0 hR1 hG
  obtain ⟨R, hR⟩ : ∃ R, termsB x = R := ⟨_, rfl⟩
  have HR := Lib.hid hR
  clear hR
  go_enter Tryz.func50, Tryz.ntmps50
  go_wp2_with fail
  go_loopw [10] (fun i wr => ∃ k : Nat, k ≤ x.len ∧ i = .int .i64 k ∧ termsB (x.drop k) = R ∧ Blk wr w.heap.size 40 #[.int .i64 11, .string zs, .string zt, .slice X x.len cx, .slice P p.len cp, .slice Q q.len cq] ∧ Below w.heap.size w wr) (fun i _ => x.len - (intOf i).toNat)
  case atStart => exact ⟨0, Nat.zero_le _, rfl, by rw [Fr.drop_zero]; exact HR.out, B, L0⟩
  case round =>
    clear B L0
    obtain ⟨kk, hk, rfl, hE, B, L0⟩ := hrel
    by_cases hlt : kk < x.len
    · obtain ⟨b, o, a, k1, A1, c1, rfl, hb, hd, hks, hSk, q0, q1, q2, q3⟩ := at_Expr (hX.below L0 (Nat.le_refl _)) hlt
      have hqk := FrOk.drop kk HQ.out
      rw [hd] at hqk
      obtain ⟨hqa, _, hqk, _⟩ := hqk
      obtain ⟨yk, yn, ys⟩ := a
      simp only at q0 q1 q2
      have hlt' : (kk : Int) < (x.len : Int) := by omega
      have L1 := bl_alloc L0 (.cells #[.int .i64 yk, .int .i64 yn, .string ys, .slice A1 k1.len c1] 29)
      have B1 := B.alloc (.cells #[.int .i64 yk, .int .i64 yn, .string ys, .slice A1 k1.len c1] 29)
      have cZ := CX.out yk yn ys k1 A1 c1 (wr.alloc (.cells #[.int .i64 yk, .int .i64 yn, .string ys, .slice A1 k1.len c1] 29)) (by omega) hqa hqk ((hSk.below (B := wr.heap.size) (bl_alloc (Below.refl wr.heap.size wr) _) L0.size).more (Nat.le_refl _) L1.size)
      obtain ⟨z, hz⟩ : ∃ z, rightN cntE (yk, yn, ys) k1 = z := ⟨_, rfl⟩
      rw [hz] at cZ
      have CZ := Lib.hid cZ
      clear cZ
      cases z
      · have HG := Lib.hid (HR1.out (HR.out.trans (hE.symm.trans (termsB_no hd hz))))
        clear hd hz HR hqk hE HR0 HR1
        go_wp2_with fail
        refine CZ.out.mono ?_; rintro e w1 ⟨rfl, b1⟩
        go_wp2_with fail
        go_ret
        exact ⟨ret_bool HG.out.symm, bl_trans L1 b1⟩
      · have HN := Lib.hid ((termsB_yes hd hz).symm.trans hE)
        clear hd hz HR hqk hE HR0 HR1
        go_wp2_with fail
        refine CZ.out.mono ?_; rintro e w1 ⟨rfl, b1⟩
        go_wp2_with fail
        go_roundw
        case rel => exact ⟨kk + 1, by omega, by go_num, HN.out, B1.keep b1, bl_trans L1 b1⟩
        case measure => simp [intOf]; omega
    · obtain rfl : kk = x.len := by omega
      rw [Fr.drop_all] at hE
      have hG := HR0.out (HR.out.trans hE.symm)
      have HGG := Lib.hid hG
      clear hE HR HR0 HR1 CX HQ hG
      have p0 := B.cell
      have hwr := Nat.le_refl wr.heap.size
      cases ht : zt.toList.isEmpty
      · skip
        have HV := Lib.hid (show headS 11 zs zt x p.len q.len = false from by rw [headS_11, ht]; simp)
        go_wp2_with fail
        go_ret
        exact ⟨ret_bool ((HGG.out.trans HV.out).symm), L0⟩
      · skip
        by_cases hq0 : q.len = 0
        · have gq : ((q.len : Int) == 0) = true := by simp [hq0]
          have hq0' : (q.len == 0) = true := by simp [hq0]
          have gq2 : ¬ (0 : Int) < (q.len : Int) := by omega
          have Hq := Lib.hid hq0
          clear hq0
          by_cases hp0 : p.len = 0
          · have gp : ((p.len : Int) == 0) = true := by simp [hp0]
            have hp0' : (p.len == 0) = true := by simp [hp0]
            have gp2 : ¬ (0 : Int) < (p.len : Int) := by omega
            have Hp := Lib.hid hp0
            clear hp0
            cases he : zs.toList.isEmpty
            · skip
              have c1 := fun w => iNameOk zs w (by omega)
              obtain ⟨q1, hb1⟩ : ∃ q, nameOkB zs = q := ⟨_, rfl⟩
              rw [hb1] at c1
              have C1 := Lib.hid c1
              clear c1
              go_wp2_with fail
              refine (C1.out _).mono ?_; rintro e w1 ⟨rfl, b1⟩
              have L1 := bl_trans L0 b1
              have B1 := B.keep b1
              have p1 := B1.cell
              cases q1
              · skip
                have HV := Lib.hid (show headS 11 zs zt x p.len q.len = false from by rw [headS_11, ht, hq0', hp0', hb1]; simp)
                go_wp2_with fail
                go_ret
                exact ⟨ret_bool ((HGG.out.trans HV.out).symm), L1⟩
              · skip
                by_cases hx0 : x.len = 1
                · have gx : ((x.len : Int) == 1) = true := by simp [hx0]
                  have hx0' : (x.len == 1) = true := by simp [hx0]
                  have Hx := Lib.hid hx0
                  clear hx0
                  have HV := Lib.hid (show headS 11 zs zt x p.len q.len = true from by rw [headS_11, ht, hq0', hp0', hb1, hx0']; rfl)
                  go_wp2_with fail
                  go_ret
                  exact ⟨ret_bool ((HGG.out.trans HV.out).symm), L1⟩
                · have gx : ((x.len : Int) == 1) = false := beq_eq_false_iff_ne.2 (by omega)
                  have hx0' : (x.len == 1) = false := by simp [hx0]
                  have Hx := Lib.hid hx0
                  clear hx0
                  have HV := Lib.hid (show headS 11 zs zt x p.len q.len = false from by rw [headS_11, ht, hq0', hp0', hb1, hx0']; simp)
                  go_wp2_with fail
                  go_ret
                  exact ⟨ret_bool ((HGG.out.trans HV.out).symm), L1⟩
            · have hne := nameOkB_nil he
              have HV := Lib.hid (show headS 11 zs zt x p.len q.len = false from by rw [headS_11, ht, hq0', hp0', hne]; simp)
              go_wp2_with fail
              go_ret
              exact ⟨ret_bool ((HGG.out.trans HV.out).symm), L0⟩
          · have gp : ((p.len : Int) == 0) = false := beq_eq_false_iff_ne.2 (by omega)
            have hp0' : (p.len == 0) = false := by simp [hp0]
            have gp2 : (0 : Int) < (p.len : Int) := by omega
            have Hp := Lib.hid hp0
            clear hp0
            have HV := Lib.hid (show headS 11 zs zt x p.len q.len = false from by rw [headS_11, ht, hq0', hp0']; simp)
            go_wp2_with fail
            go_ret
            exact ⟨ret_bool ((HGG.out.trans HV.out).symm), L0⟩
        · have gq : ((q.len : Int) == 0) = false := beq_eq_false_iff_ne.2 (by omega)
          have hq0' : (q.len == 0) = false := by simp [hq0]
          have gq2 : (0 : Int) < (q.len : Int) := by omega
          have Hq := Lib.hid hq0
          clear hq0
          have HV := Lib.hid (show headS 11 zs zt x p.len q.len = false from by rw [headS_11, ht, hq0']; simp)
          go_wp2_with fail
          go_ret
          exact ⟨ret_bool ((HGG.out.trans HV.out).symm), L0⟩

set_option maxHeartbeats 8000000 in
theorem iHeadS_12 (zs zt : ByteArray) (x : Fr (Int × Int × ByteArray)) (p q : St) (X : Option Addr) (cx : Nat) (P : Option Addr) (cp : Nat) (Q : Option Addr) (cq : Nat) (w : World) (hz : zs.size ≤ 1048576) (ht0 : zt.size ≤ 1048576) (hxl : x.size ≤ 1048576) (hxq : FrOk qSmE x) (hX : Sl exprC w 0 w.heap.size X x) :
    Calls Tryz.prog 50 #[.agg #[.int .i64 12, .string zs, .string zt, .slice X x.len cx, .slice P p.len cp, .slice Q q.len cq]] w fun e w' => e = .returned (.bool (hereS ((12, zs, zt), x, p.len, q.len))) ∧ Below w.heap.size w w' := by
  have _ := hz
  have _ := ht0
  have B := Blk.new w 40 #[.int .i64 12, .string zs, .string zt, .slice X x.len cx, .slice P p.len cp, .slice Q q.len cq]
  have L0 := bl_alloc (Below.refl w.heap.size w) (.cells #[.int .i64 12, .string zs, .string zt, .slice X x.len cx, .slice P p.len cp, .slice Q q.len cq] 40)
  have hlen := x.len_size
  have CX := Lib.hid iExprOk
  have HQ := Lib.hid hxq
  have hR0 := fun (h : termsB x = true) => show hereS (((12 : Int), zs, zt), x, p.len, q.len) = headS 12 zs zt x p.len q.len from by unfold hereS; rw [h]; rfl
  have hR1 := fun (h : termsB x = false) => show hereS (((12 : Int), zs, zt), x, p.len, q.len) = false from by unfold hereS; rw [h]; rfl
  obtain ⟨G, hG⟩ : ∃ G, hereS (((12 : Int), zs, zt), x, p.len, q.len) = G := ⟨_, rfl⟩
  rw [hG] at hR0 hR1 ⊢
  have HR0 := Lib.hid hR0
  have HR1 := Lib.hid hR1
  clear hxq hR0 hR1 hG
  obtain ⟨R, hR⟩ : ∃ R, termsB x = R := ⟨_, rfl⟩
  have HR := Lib.hid hR
  clear hR
  go_enter Tryz.func50, Tryz.ntmps50
  go_wp2_with fail
  go_loopw [10] (fun i wr => ∃ k : Nat, k ≤ x.len ∧ i = .int .i64 k ∧ termsB (x.drop k) = R ∧ Blk wr w.heap.size 40 #[.int .i64 12, .string zs, .string zt, .slice X x.len cx, .slice P p.len cp, .slice Q q.len cq] ∧ Below w.heap.size w wr) (fun i _ => x.len - (intOf i).toNat)
  case atStart => exact ⟨0, Nat.zero_le _, rfl, by rw [Fr.drop_zero]; exact HR.out, B, L0⟩
  case round =>
    clear B L0
    obtain ⟨kk, hk, rfl, hE, B, L0⟩ := hrel
    by_cases hlt : kk < x.len
    · obtain ⟨b, o, a, k1, A1, c1, rfl, hb, hd, hks, hSk, q0, q1, q2, q3⟩ := at_Expr (hX.below L0 (Nat.le_refl _)) hlt
      have hqk := FrOk.drop kk HQ.out
      rw [hd] at hqk
      obtain ⟨hqa, _, hqk, _⟩ := hqk
      obtain ⟨yk, yn, ys⟩ := a
      simp only at q0 q1 q2
      have hlt' : (kk : Int) < (x.len : Int) := by omega
      have L1 := bl_alloc L0 (.cells #[.int .i64 yk, .int .i64 yn, .string ys, .slice A1 k1.len c1] 29)
      have B1 := B.alloc (.cells #[.int .i64 yk, .int .i64 yn, .string ys, .slice A1 k1.len c1] 29)
      have cZ := CX.out yk yn ys k1 A1 c1 (wr.alloc (.cells #[.int .i64 yk, .int .i64 yn, .string ys, .slice A1 k1.len c1] 29)) (by omega) hqa hqk ((hSk.below (B := wr.heap.size) (bl_alloc (Below.refl wr.heap.size wr) _) L0.size).more (Nat.le_refl _) L1.size)
      obtain ⟨z, hz⟩ : ∃ z, rightN cntE (yk, yn, ys) k1 = z := ⟨_, rfl⟩
      rw [hz] at cZ
      have CZ := Lib.hid cZ
      clear cZ
      cases z
      · have HG := Lib.hid (HR1.out (HR.out.trans (hE.symm.trans (termsB_no hd hz))))
        clear hd hz HR hqk hE HR0 HR1
        go_wp2_with fail
        refine CZ.out.mono ?_; rintro e w1 ⟨rfl, b1⟩
        go_wp2_with fail
        go_ret
        exact ⟨ret_bool HG.out.symm, bl_trans L1 b1⟩
      · have HN := Lib.hid ((termsB_yes hd hz).symm.trans hE)
        clear hd hz HR hqk hE HR0 HR1
        go_wp2_with fail
        refine CZ.out.mono ?_; rintro e w1 ⟨rfl, b1⟩
        go_wp2_with fail
        go_roundw
        case rel => exact ⟨kk + 1, by omega, by go_num, HN.out, B1.keep b1, bl_trans L1 b1⟩
        case measure => simp [intOf]; omega
    · obtain rfl : kk = x.len := by omega
      rw [Fr.drop_all] at hE
      have hG := HR0.out (HR.out.trans hE.symm)
      have HGG := Lib.hid hG
      clear hE HR HR0 HR1 CX HQ hG
      have p0 := B.cell
      have hwr := Nat.le_refl wr.heap.size
      cases ht : zt.toList.isEmpty
      · skip
        have HV := Lib.hid (show headS 12 zs zt x p.len q.len = false from by rw [headS_12, ht]; simp)
        go_wp2_with fail
        go_ret
        exact ⟨ret_bool ((HGG.out.trans HV.out).symm), L0⟩
      · skip
        by_cases hq0 : q.len = 0
        · have gq : ((q.len : Int) == 0) = true := by simp [hq0]
          have hq0' : (q.len == 0) = true := by simp [hq0]
          have gq2 : ¬ (0 : Int) < (q.len : Int) := by omega
          have Hq := Lib.hid hq0
          clear hq0
          by_cases hp0 : p.len = 0
          · have gp : ((p.len : Int) == 0) = true := by simp [hp0]
            have hp0' : (p.len == 0) = true := by simp [hp0]
            have gp2 : ¬ (0 : Int) < (p.len : Int) := by omega
            have Hp := Lib.hid hp0
            clear hp0
            cases he : zs.toList.isEmpty
            · skip
              have HV := Lib.hid (show headS 12 zs zt x p.len q.len = false from by rw [headS_12, ht, hq0', hp0', he]; simp)
              go_wp2_with fail
              go_ret
              exact ⟨ret_bool ((HGG.out.trans HV.out).symm), L0⟩
            · skip
              by_cases hx0 : x.len = 1
              · have gx : ((x.len : Int) == 1) = true := by simp [hx0]
                have hx0' : (x.len == 1) = true := by simp [hx0]
                have Hx := Lib.hid hx0
                clear hx0
                obtain ⟨b, o, a, k1, A1, c1, hAe, hb, hdr, _, _, e0, e1, e2, e3⟩ := at_Expr ((hX).below L0 (Nat.le_refl _)) (i := 0) (by have := Hx.out; omega)
                subst hAe
                rw [Fr.drop_zero] at hdr
                have hcf : callF x = (a.1 == 11) := by rw [hdr]; rfl
                have hl1 : (0 : Int) < (x.len : Int) := by have := Hx.out; omega
                simp only [Nat.zero_mul, Nat.add_zero] at e0 e1 e2 e3
                clear hdr
                cases h11 : (a.1 == 11)
                · skip
                  have HV := Lib.hid (show headS 12 zs zt x p.len q.len = false from by rw [headS_12, ht, hq0', hp0', he, hx0', hcf, h11]; simp)
                  go_wp2_with fail
                  go_ret
                  exact ⟨ret_bool ((HGG.out.trans HV.out).symm), L0⟩
                · skip
                  have HV := Lib.hid (show headS 12 zs zt x p.len q.len = true from by rw [headS_12, ht, hq0', hp0', he, hx0', hcf, h11]; rfl)
                  go_wp2_with fail
                  go_ret
                  exact ⟨ret_bool ((HGG.out.trans HV.out).symm), L0⟩
              · have gx : ((x.len : Int) == 1) = false := beq_eq_false_iff_ne.2 (by omega)
                have hx0' : (x.len == 1) = false := by simp [hx0]
                have Hx := Lib.hid hx0
                clear hx0
                have HV := Lib.hid (show headS 12 zs zt x p.len q.len = false from by rw [headS_12, ht, hq0', hp0', he, hx0']; simp)
                go_wp2_with fail
                go_ret
                exact ⟨ret_bool ((HGG.out.trans HV.out).symm), L0⟩
          · have gp : ((p.len : Int) == 0) = false := beq_eq_false_iff_ne.2 (by omega)
            have hp0' : (p.len == 0) = false := by simp [hp0]
            have gp2 : (0 : Int) < (p.len : Int) := by omega
            have Hp := Lib.hid hp0
            clear hp0
            have HV := Lib.hid (show headS 12 zs zt x p.len q.len = false from by rw [headS_12, ht, hq0', hp0']; simp)
            go_wp2_with fail
            go_ret
            exact ⟨ret_bool ((HGG.out.trans HV.out).symm), L0⟩
        · have gq : ((q.len : Int) == 0) = false := beq_eq_false_iff_ne.2 (by omega)
          have hq0' : (q.len == 0) = false := by simp [hq0]
          have gq2 : (0 : Int) < (q.len : Int) := by omega
          have Hq := Lib.hid hq0
          clear hq0
          have HV := Lib.hid (show headS 12 zs zt x p.len q.len = false from by rw [headS_12, ht, hq0']; simp)
          go_wp2_with fail
          go_ret
          exact ⟨ret_bool ((HGG.out.trans HV.out).symm), L0⟩

set_option maxHeartbeats 8000000 in
theorem iHeadS (zk : Int) (zs zt : ByteArray) (x : Fr (Int × Int × ByteArray)) (p q : St) (X : Option Addr) (cx : Nat) (P : Option Addr) (cp : Nat) (Q : Option Addr) (cq : Nat) (w : World) (hz : zs.size ≤ 1048576) (ht0 : zt.size ≤ 1048576) (hxl : x.size ≤ 1048576) (hxq : FrOk qSmE x) (hX : Sl exprC w 0 w.heap.size X x) :
    Calls Tryz.prog 50 #[.agg #[.int .i64 zk, .string zs, .string zt, .slice X x.len cx, .slice P p.len cp, .slice Q q.len cq]] w fun e w' => e = .returned (.bool (hereS ((zk, zs, zt), x, p.len, q.len))) ∧ Below w.heap.size w w' := by
  by_cases n1 : zk = 1
  · subst n1; exact iHeadS_1 zs zt x p q X cx P cp Q cq w hz ht0 hxl hxq hX
  have m1 : (zk == 1) = false := by simp [n1]
  by_cases n2 : zk = 2
  · subst n2; exact iHeadS_2 zs zt x p q X cx P cp Q cq w hz ht0 hxl hxq hX
  have m2 : (zk == 2) = false := by simp [n2]
  by_cases n3 : zk = 3
  · subst n3; exact iHeadS_3 zs zt x p q X cx P cp Q cq w hz ht0 hxl hxq hX
  have m3 : (zk == 3) = false := by simp [n3]
  by_cases n4 : zk = 4
  · subst n4; exact iHeadS_4 zs zt x p q X cx P cp Q cq w hz ht0 hxl hxq hX
  have m4 : (zk == 4) = false := by simp [n4]
  by_cases n5 : zk = 5
  · subst n5; exact iHeadS_5 zs zt x p q X cx P cp Q cq w hz ht0 hxl hxq hX
  have m5 : (zk == 5) = false := by simp [n5]
  by_cases n6 : zk = 6
  · subst n6; exact iHeadS_6 zs zt x p q X cx P cp Q cq w hz ht0 hxl hxq hX
  have m6 : (zk == 6) = false := by simp [n6]
  by_cases n7 : zk = 7
  · subst n7; exact iHeadS_7 zs zt x p q X cx P cp Q cq w hz ht0 hxl hxq hX
  have m7 : (zk == 7) = false := by simp [n7]
  by_cases n8 : zk = 8
  · subst n8; exact iHeadS_8 zs zt x p q X cx P cp Q cq w hz ht0 hxl hxq hX
  have m8 : (zk == 8) = false := by simp [n8]
  by_cases n9 : zk = 9
  · subst n9; exact iHeadS_9 zs zt x p q X cx P cp Q cq w hz ht0 hxl hxq hX
  have m9 : (zk == 9) = false := by simp [n9]
  by_cases n10 : zk = 10
  · subst n10; exact iHeadS_10 zs zt x p q X cx P cp Q cq w hz ht0 hxl hxq hX
  have m10 : (zk == 10) = false := by simp [n10]
  by_cases n11 : zk = 11
  · subst n11; exact iHeadS_11 zs zt x p q X cx P cp Q cq w hz ht0 hxl hxq hX
  have m11 : (zk == 11) = false := by simp [n11]
  by_cases n12 : zk = 12
  · subst n12; exact iHeadS_12 zs zt x p q X cx P cp Q cq w hz ht0 hxl hxq hX
  have m12 : (zk == 12) = false := by simp [n12]
  have m5' : (zk != 5) = true := by simp [n5]
  have m6' : (zk != 6) = true := by simp [n6]
  have m7' : (zk != 7) = true := by simp [n7]
  have _ := hz
  have _ := ht0
  have B := Blk.new w 40 #[.int .i64 zk, .string zs, .string zt, .slice X x.len cx, .slice P p.len cp, .slice Q q.len cq]
  have L0 := bl_alloc (Below.refl w.heap.size w) (.cells #[.int .i64 zk, .string zs, .string zt, .slice X x.len cx, .slice P p.len cp, .slice Q q.len cq] 40)
  have hlen := x.len_size
  have CX := Lib.hid iExprOk
  have HQ := Lib.hid hxq
  have hR0 := fun (h : termsB x = true) => show hereS ((zk, zs, zt), x, p.len, q.len) = headS zk zs zt x p.len q.len from by unfold hereS; rw [h]; rfl
  have hR1 := fun (h : termsB x = false) => show hereS ((zk, zs, zt), x, p.len, q.len) = false from by unfold hereS; rw [h]; rfl
  obtain ⟨G, hG⟩ : ∃ G, hereS ((zk, zs, zt), x, p.len, q.len) = G := ⟨_, rfl⟩
  rw [hG] at hR0 hR1 ⊢
  have HR0 := Lib.hid hR0
  have HR1 := Lib.hid hR1
  clear hxq hR0 hR1 hG
  obtain ⟨R, hR⟩ : ∃ R, termsB x = R := ⟨_, rfl⟩
  have HR := Lib.hid hR
  clear hR
  go_enter Tryz.func50, Tryz.ntmps50
  go_wp2_with fail
  go_loopw [10] (fun i wr => ∃ k : Nat, k ≤ x.len ∧ i = .int .i64 k ∧ termsB (x.drop k) = R ∧ Blk wr w.heap.size 40 #[.int .i64 zk, .string zs, .string zt, .slice X x.len cx, .slice P p.len cp, .slice Q q.len cq] ∧ Below w.heap.size w wr) (fun i _ => x.len - (intOf i).toNat)
  case atStart => exact ⟨0, Nat.zero_le _, rfl, by rw [Fr.drop_zero]; exact HR.out, B, L0⟩
  case round =>
    clear B L0
    obtain ⟨kk, hk, rfl, hE, B, L0⟩ := hrel
    by_cases hlt : kk < x.len
    · obtain ⟨b, o, a, k1, A1, c1, rfl, hb, hd, hks, hSk, q0, q1, q2, q3⟩ := at_Expr (hX.below L0 (Nat.le_refl _)) hlt
      have hqk := FrOk.drop kk HQ.out
      rw [hd] at hqk
      obtain ⟨hqa, _, hqk, _⟩ := hqk
      obtain ⟨yk, yn, ys⟩ := a
      simp only at q0 q1 q2
      have hlt' : (kk : Int) < (x.len : Int) := by omega
      have L1 := bl_alloc L0 (.cells #[.int .i64 yk, .int .i64 yn, .string ys, .slice A1 k1.len c1] 29)
      have B1 := B.alloc (.cells #[.int .i64 yk, .int .i64 yn, .string ys, .slice A1 k1.len c1] 29)
      have cZ := CX.out yk yn ys k1 A1 c1 (wr.alloc (.cells #[.int .i64 yk, .int .i64 yn, .string ys, .slice A1 k1.len c1] 29)) (by omega) hqa hqk ((hSk.below (B := wr.heap.size) (bl_alloc (Below.refl wr.heap.size wr) _) L0.size).more (Nat.le_refl _) L1.size)
      obtain ⟨z, hz⟩ : ∃ z, rightN cntE (yk, yn, ys) k1 = z := ⟨_, rfl⟩
      rw [hz] at cZ
      have CZ := Lib.hid cZ
      clear cZ
      cases z
      · have HG := Lib.hid (HR1.out (HR.out.trans (hE.symm.trans (termsB_no hd hz))))
        clear hd hz HR hqk hE HR0 HR1
        go_wp2_with fail
        refine CZ.out.mono ?_; rintro e w1 ⟨rfl, b1⟩
        go_wp2_with fail
        go_ret
        exact ⟨ret_bool HG.out.symm, bl_trans L1 b1⟩
      · have HN := Lib.hid ((termsB_yes hd hz).symm.trans hE)
        clear hd hz HR hqk hE HR0 HR1
        go_wp2_with fail
        refine CZ.out.mono ?_; rintro e w1 ⟨rfl, b1⟩
        go_wp2_with fail
        go_roundw
        case rel => exact ⟨kk + 1, by omega, by go_num, HN.out, B1.keep b1, bl_trans L1 b1⟩
        case measure => simp [intOf]; omega
    · obtain rfl : kk = x.len := by omega
      rw [Fr.drop_all] at hE
      have hG := HR0.out (HR.out.trans hE.symm)
      have HGG := Lib.hid hG
      clear hE HR HR0 HR1 CX HQ hG
      have p0 := B.cell
      have hwr := Nat.le_refl wr.heap.size
      have HV := Lib.hid (headS_none (k := zk) (by intro j hj; simp only [List.mem_cons, List.not_mem_nil, or_false] at hj; rcases hj with rfl | rfl | rfl | rfl | rfl | rfl | rfl | rfl | rfl | rfl | rfl | rfl <;> assumption) zs zt x p.len q.len)
      cases ht : zt.toList.isEmpty
      · skip
        go_wp2_with fail
        go_ret
        exact ⟨ret_bool ((HGG.out.trans HV.out).symm), L0⟩
      · skip
        by_cases hq0 : q.len = 0
        · have gq2 : ¬ (0 : Int) < (q.len : Int) := by omega
          have Hq := Lib.hid hq0
          clear hq0
          by_cases hp0 : p.len = 0
          · have gp2 : ¬ (0 : Int) < (p.len : Int) := by omega
            have Hp := Lib.hid hp0
            clear hp0
            cases he : zs.toList.isEmpty
            · skip
              go_wp2_with fail
              go_ret
              exact ⟨ret_bool ((HGG.out.trans HV.out).symm), L0⟩
            · skip
              go_wp2_with fail
              go_ret
              exact ⟨ret_bool ((HGG.out.trans HV.out).symm), L0⟩
          · have gp2 : (0 : Int) < (p.len : Int) := by omega
            have Hp := Lib.hid hp0
            clear hp0
            go_wp2_with fail
            go_ret
            exact ⟨ret_bool ((HGG.out.trans HV.out).symm), L0⟩
        · have gq2 : (0 : Int) < (q.len : Int) := by omega
          have Hq := Lib.hid hq0
          clear hq0
          go_wp2_with fail
          go_ret
          exact ⟨ret_bool ((HGG.out.trans HV.out).symm), L0⟩

end Go.Proofs.YtemlnpncljomgaaGreatDoor
