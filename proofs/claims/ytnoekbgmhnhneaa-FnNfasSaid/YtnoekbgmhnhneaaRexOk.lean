/- Walks over RexOk, the program's and the reference's. -/
import Derived.Test.YtnoekbgmhnhneaaRexSp
import Derived.Test.YtnoekbgmhnhneaaRexSo
import Derived.Test.YtnoekbgmhnhneaaRexIp
namespace Go.Proofs.Ytnoekbgmhnhneaa
open Go.RowKit

set_option maxHeartbeats 1000000 in
theorem iRexOkB (zk : Int) (zs : ByteArray) (kids : Fr (Int × ByteArray)) (A : Option Addr) (c : Nat) (w : World) (hl : kids.size ≤ 4194304) (hz : zs.size ≤ 1048576) (hq : FrOk qSmall kids) (hS : Sl rexC w 0 w.heap.size A kids) : Calls Try.prog 53 #[.agg #[.int .i64 zk, .string zs, .slice A kids.len c]] w fun e w' => e = .returned (.bool (rexB zk zs kids)) ∧ Below w.heap.size w w' := by
  have L0 := bl_alloc (Below.refl w.heap.size w) (.cells #[.int .i64 zk, .string zs, .slice A kids.len c] 45)
  have C := Lib.hid (iParts_any kids.size kids (Nat.le_refl _) hl hq zk zs A c 1 _ hz (by omega) (by omega) ((hS.below L0 (Nat.le_refl _)).more (Nat.le_refl _) L0.size))
  go_enter Try.func53, Try.ntmps53
  go_wp2_with fail
  refine C.out.mono ?_; rintro e w1 ⟨⟨x, rfl, hP⟩, b1⟩
  have E := Lib.hid (rexB_impl hP)
  clear hP
  go_wp2_with fail
  go_ret
  exact ⟨ret_bool E.out, bl_trans L0 b1⟩
theorem iRexOk (zk : Int) (zs : ByteArray) (kids : Fr (Int × ByteArray)) (A : Option Addr) (c : Nat) (w : World) (hl : kids.size ≤ 1048576) (hz : zs.size ≤ 1048576) (hq : FrOk qSmall kids) (hS : Sl rexC w 0 w.heap.size A kids) : Calls Try.prog 53 #[.agg #[.int .i64 zk, .string zs, .slice A kids.len c]] w fun e w' => e = .returned (.bool (rexB zk zs kids)) ∧ Below w.heap.size w w' := iRexOkB zk zs kids A c w (by omega) hz hq hS
set_option maxHeartbeats 1000000 in
theorem sRexOk (zk : Int) (zs : ByteArray) (kids : Fr (Int × ByteArray)) (A : Option Addr) (c : Nat) (w : World) (hl : kids.size ≤ 1048576) (hz : zs.size ≤ 1048576) (hq : FrOk qSmall kids) (hS : Sl rexC w 0 w.heap.size A kids) : Calls Try.prog 50 #[.agg #[.int .i64 zk, .string zs, .slice A kids.len c]] w fun e w' => e = .returned (.bool (rexB zk zs kids)) ∧ Below w.heap.size w w' := by
  have B := Blk.new w 45 #[.int .i64 zk, .string zs, .slice A kids.len c]
  have L0 := bl_alloc (Below.refl w.heap.size w) (.cells #[.int .i64 zk, .string zs, .slice A kids.len c] 45)
  have C := Lib.hid (sParts_any kids.size kids (Nat.le_refl _) hl zk zs A c 1 _ (by omega) (by omega) ((hS.below L0 (Nat.le_refl _)).more (Nat.le_refl _) L0.size))
  have D := Lib.hid (fun w h => sOk_any kids.size kids (Nat.le_refl _) hl hq zk zs A c w hz h)
  go_enter Try.func50, Try.ntmps50
  go_wp2_with fail
  refine C.out.mono ?_; rintro e w1 ⟨⟨x, rfl, hP⟩, b1⟩
  have E := rexB_spec hP
  have cb := (Blk.keep B b1).cell
  have L1 := bl_trans L0 b1
  clear hP
  by_cases hx : x ≤ 60
  · rw [decide_eq_true hx, Bool.true_and] at E
    have EE := Lib.hid E
    clear E
    go_wp2_with fail
    refine (D.out _ ((hS.below L1 (Nat.le_refl _)).more (Nat.le_refl _) L1.size)).mono ?_; rintro e w2 ⟨rfl, b2⟩
    rw [EE.out]
    go_wp2_with fail
    go_ret
    exact ⟨rfl, bl_trans L1 b2⟩
  · rw [decide_eq_false hx, Bool.false_and] at E
    have EE := Lib.hid E
    clear E
    go_wp2_with fail
    go_ret
    exact ⟨ret_bool EE.out, L1⟩

end Go.Proofs.Ytnoekbgmhnhneaa
