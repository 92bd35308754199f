import Derived.Test.YtemlnpncljomgaaGreatDoorExprIh
import Derived.Test.YtemlnpncljomgaaGreatDoorExprSp
namespace Go.Proofs.YtemlnpncljomgaaGreatDoor
open Go.RowKit

set_option maxHeartbeats 4000000 in
theorem iPartsE_step (K : Nat) (zk zn : Int) (zs : ByteArray) (kids : Fr (Int × Int × ByteArray)) (A : Option Addr) (c : Nat) (d : Int) (w : World) (hK : kids.size ≤ K) (hl : kids.size ≤ 1048576) (hz : zs.size ≤ 1048576) (hq : FrOk qSmE kids) (hd1 : 1 ≤ d) (hd7 : d ≤ 11) (hS : Sl exprC w 0 w.heap.size A kids)
    (ih : ∀ (kids : Fr (Int × Int × ByteArray)), kids.size < K → FrOk qSmE kids → ∀ (zk zn : Int) (zs : ByteArray) (A : Option Addr) (c : Nat) (d : Int) (w : World), zs.size ≤ 1048576 → 1 ≤ d → d ≤ 11 → Sl exprC w 0 w.heap.size A kids → Calls Tryz.prog 36 #[.agg #[.int .i64 zk, .int .i64 zn, .string zs, .slice A kids.len c], .int .i64 d] w fun e w' => RetInt (fun x => PartsN cntE 101 d (zk, zn, zs) kids x) e ∧ Below w.heap.size w w') :
    Calls Tryz.prog 36 #[.agg #[.int .i64 zk, .int .i64 zn, .string zs, .slice A kids.len c], .int .i64 d] w fun e w' => RetInt (fun x => PartsN cntE 101 d (zk, zn, zs) kids x) e ∧ Below w.heap.size w w' := by
  have HM := Lib.hid (show cntE.M = 100 from rfl)
  have HD := Lib.hid (show cntE.D = 10 from rfl)
  by_cases hd : 10 < d
  · go_enter Tryz.func36, Tryz.ntmps36
    go_wp2_with fail
    go_ret
    exact ⟨⟨101, rfl, PartsN.deep (N := cntE) (by rw [HM.out]; omega) (by rw [HM.out]; omega) (by rw [HD.out]; exact hd)⟩, by repeat (first | exact Below.refl _ _ | refine bl_drewN ?_ _ | refine Below.drew ?_ | refine bl_alloc ?_ _ | refine bl_set ?_ (by simp) _ | refine bl_trans ?_ (by assumption))⟩
  have B := Blk.new w 29 #[.int .i64 zk, .int .i64 zn, .string zs, .slice A kids.len c]
  have L0 := bl_alloc (Below.refl w.heap.size w) (.cells #[.int .i64 zk, .int .i64 zn, .string zs, .slice A kids.len c] 29)
  have hlen := kids.len_size
  have IHH := Lib.hid ih
  have HQ := Lib.hid hq
  have cH := fun w => iHeadE zk zn zs A kids.len c w hz
  obtain ⟨H, hH⟩ : ∃ H, hereE (zk, zn, zs) kids.len = H := ⟨_, rfl⟩
  rw [hH] at cH
  have CH := Lib.hid cH
  clear ih hq cH
  cases H
  · have HV := Lib.hid (show cntE.here (zk, zn, zs) kids = false from hH)
    clear hH
    go_enter Tryz.func36, Tryz.ntmps36
    go_wp2_with fail
    refine (CH.out _).mono ?_; rintro e w1 ⟨rfl, b1⟩
    go_wp2_with fail
    go_ret
    exact ⟨⟨101, rfl, PartsN.bad (N := cntE) (by rw [HM.out]; omega) (by rw [HM.out]; omega) HV.out⟩, bl_trans L0 b1⟩
  · have HV := Lib.hid (show cntE.here (zk, zn, zs) kids = true from hH)
    clear hH
    go_enter Tryz.func36, Tryz.ntmps36
    go_wp2_with fail
    refine (CH.out _).mono ?_; rintro e w1 ⟨rfl, b1⟩
    have L1 := bl_trans L0 b1
    have B1 := B.keep b1
    have cb := B1.cell
    go_wp2_with fail
    go_loopw [5, 18] (fun nv i wr => ∃ (k : Nat) (n : Int), k ≤ kids.len ∧ i = .int .i64 k ∧ nv = .int .i64 n ∧ InvN cntE (d + 1) kids n (kids.drop k) ∧ Below w.heap.size w wr) (fun _ i _ => kids.len - (intOf i).toNat)
    case atStart => exact ⟨0, 1, Nat.zero_le _, rfl, rfl, by rw [Fr.drop_zero]; exact InvN.start (by rw [HM.out]; omega), L1⟩
    case round =>
      obtain ⟨k, n, hk, rfl, rfl, hI, hLr⟩ := hrel
      by_cases hlt : k < kids.len
      · have hlt' : (k : Int) < (kids.len : Int) := by omega
        obtain ⟨b, o, a, k1, A1, c1, rfl, hb, hdr, hks, hSk, q0, q1, q2, q3⟩ := at_Expr (hS.below hLr (Nat.le_refl _)) hlt
        have hqk := FrOk.drop k HQ.out
        rw [hdr] at hqk hI
        obtain ⟨hqa, _, hqk, _⟩ := hqk
        obtain ⟨yk, yn, ys⟩ := a
        simp only at q0 q1 q2
        have hn60 : n ≤ 100 := by have := hI.2.1; rw [HM.out] at this; exact this
        have hn1 : 1 ≤ n := hI.1
        have L2 := bl_alloc hLr (.cells #[.int .i64 yk, .int .i64 yn, .string ys, .slice A1 k1.len c1] 29)
        have C := Lib.hid (IHH.out k1 (by omega) hqk yk yn ys A1 c1 (d + 1) (wr.alloc (.cells #[.int .i64 yk, .int .i64 yn, .string ys, .slice A1 k1.len c1] 29)) hqa (by omega) (by omega) ((hSk.below (B := wr.heap.size) (bl_alloc (Below.refl wr.heap.size wr) _) hLr.size).more (Nat.le_refl _) L2.size))
        have HI := Lib.hid hI
        clear hI hdr hqk cb
        go_wp2_with fail
        refine C.out.mono ?_; rintro e w9 ⟨⟨x, rfl, hP⟩, b9⟩
        have hx1 : 1 ≤ x := hP.1
        have hx2 : x ≤ 101 := hP.2.1
        have HP := Lib.hid hP
        clear hP
        by_cases h60 : 101 ≤ n + x
        · go_wp2_with fail
          go_ret
          exact ⟨⟨101, rfl, PartsN.much (N := cntE) (by rw [HM.out]; omega) (by rw [HM.out]; omega) (by omega) (HI.out.stop HP.out (by rw [HM.out]; omega))⟩, bl_trans L2 b9⟩
        · go_wp2_with fail
          go_roundw
          case rel => exact ⟨k + 1, n + x, by omega, by go_num, rfl, HI.out.next HP.out (by rw [HM.out]; omega), bl_trans L2 b9⟩
          case measure => simp [intOf]; omega
      · obtain rfl : k = kids.len := by omega
        rw [Fr.drop_all] at hI
        have HI := Lib.hid hI
        clear hI
        go_wp2_with fail
        go_ret
        exact ⟨⟨n, rfl, PartsN.well (by rw [HD.out]; omega) (by rw [HM.out]; omega) HV.out HI.out⟩, hLr⟩
theorem iPartsE_any (K : Nat) : ∀ (kids : Fr (Int × Int × ByteArray)), kids.size ≤ K → K ≤ 1048576 → FrOk qSmE kids → ∀ (zk zn : Int) (zs : ByteArray) (A : Option Addr) (c : Nat) (d : Int) (w : World), zs.size ≤ 1048576 → 1 ≤ d → d ≤ 11 → Sl exprC w 0 w.heap.size A kids → Calls Tryz.prog 36 #[.agg #[.int .i64 zk, .int .i64 zn, .string zs, .slice A kids.len c], .int .i64 d] w fun e w' => RetInt (fun x => PartsN cntE 101 d (zk, zn, zs) kids x) e ∧ Below w.heap.size w w' := by
  induction K with
  | zero =>
    intro kids hK _ hq zk zn zs A c d w hz h1 h7 hS
    exact iPartsE_step 0 zk zn zs kids A c d w hK (by omega) hz hq h1 h7 hS (fun kids h => by omega)
  | succ K ih =>
    intro kids hK hb hq zk zn zs A c d w hz h1 h7 hS
    exact iPartsE_step (K + 1) zk zn zs kids A c d w hK (by omega) hz hq h1 h7 hS (fun kids h => ih kids (by omega) (by omega))

set_option maxHeartbeats 1000000 in
theorem iExprOk (zk zn : Int) (zs : ByteArray) (kids : Fr (Int × Int × ByteArray)) (A : Option Addr) (c : Nat) (w : World) (hl : kids.size ≤ 1048576) (hz : zs.size ≤ 1048576) (hq : FrOk qSmE kids) (hS : Sl exprC w 0 w.heap.size A kids) : Calls Tryz.prog 25 #[.agg #[.int .i64 zk, .int .i64 zn, .string zs, .slice A kids.len c]] w fun e w' => e = .returned (.bool (rightN cntE (zk, zn, zs) kids)) ∧ Below w.heap.size w w' := by
  have L0 := bl_alloc (Below.refl w.heap.size w) (.cells #[.int .i64 zk, .int .i64 zn, .string zs, .slice A kids.len c] 29)
  have C := Lib.hid (iPartsE_any kids.size kids (Nat.le_refl _) hl hq zk zn zs A c 1 _ hz (by omega) (by omega) ((hS.below L0 (Nat.le_refl _)).more (Nat.le_refl _) L0.size))
  go_enter Tryz.func25, Tryz.ntmps25
  go_wp2_with fail
  refine C.out.mono ?_; rintro e w1 ⟨⟨x, rfl, hP⟩, b1⟩
  have E := Lib.hid (right_impl (N := cntE) (by show (1 : Int) ≤ 10; omega) hP)
  clear hP
  go_wp2_with fail
  go_ret
  exact ⟨ret_bool (by rw [← E.out]; rfl), bl_trans L0 b1⟩
set_option maxHeartbeats 1000000 in
theorem sExprOk (zk zn : Int) (zs : ByteArray) (kids : Fr (Int × Int × ByteArray)) (A : Option Addr) (c : Nat) (w : World) (hl : kids.size ≤ 1048576) (hz : zs.size ≤ 1048576) (hq : FrOk qSmE kids) (hS : Sl exprC w 0 w.heap.size A kids) : Calls Tryz.prog 22 #[.agg #[.int .i64 zk, .int .i64 zn, .string zs, .slice A kids.len c]] w fun e w' => e = .returned (.bool (rightN cntE (zk, zn, zs) kids)) ∧ Below w.heap.size w w' := by
  have B := Blk.new w 29 #[.int .i64 zk, .int .i64 zn, .string zs, .slice A kids.len c]
  have L0 := bl_alloc (Below.refl w.heap.size w) (.cells #[.int .i64 zk, .int .i64 zn, .string zs, .slice A kids.len c] 29)
  have C := Lib.hid (sPartsE_any kids.size kids (Nat.le_refl _) hl zk zn zs A c 1 _ (by omega) (by omega) ((hS.below L0 (Nat.le_refl _)).more (Nat.le_refl _) L0.size))
  have D := Lib.hid (fun w h => sOkE_any kids.size kids (Nat.le_refl _) hl hq zk zn zs A c w hz h)
  go_enter Tryz.func22, Tryz.ntmps22
  go_wp2_with fail
  refine C.out.mono ?_; rintro e w1 ⟨⟨x, rfl, hP⟩, b1⟩
  have E := right_spec (N := cntE) (by show (1 : Int) ≤ 10; omega) hP
  rw [show cntE.M = 100 from rfl] at E
  have cb := (Blk.keep B b1).cell
  have L1 := bl_trans L0 b1
  clear hP
  by_cases hx : x ≤ 100
  · rw [decide_eq_true hx, Bool.true_and] at E
    have EE := Lib.hid E
    clear E
    go_wp2_with fail
    refine (D.out _ ((hS.below L1 (Nat.le_refl _)).more (Nat.le_refl _) L1.size)).mono ?_; rintro e w2 ⟨rfl, b2⟩
    rw [EE.out]
    go_wp2_with fail
    go_ret
    exact ⟨rfl, bl_trans L1 b2⟩
  · rw [decide_eq_false hx, Bool.false_and] at E
    have EE := Lib.hid E
    clear E
    go_wp2_with fail
    go_ret
    exact ⟨ret_bool EE.out, L1⟩

end Go.Proofs.YtemlnpncljomgaaGreatDoor
