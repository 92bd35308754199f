/- Walks over ExprText of both. -/
import Derived.Test.YtemlnpncljomgaaGreatDoorExprTi
import Derived.Test.YtemlnpncljomgaaGreatDoorExprTs
import Derived.Test.YtemlnpncljomgaaGreatDoorExprOk
namespace Go.Proofs.YtemlnpncljomgaaGreatDoor
open Go.RowKit

/-- The text of a term that is right; else none. -/
noncomputable def etx (a : Int × Int × ByteArray) (kids : Fr (Int × Int × ByteArray)) : ByteArray := if rightN cntE a kids = true then txE a (rowX kids) else ⟨#[]⟩
theorem right_parts {a : Int × Int × ByteArray} {kids : Fr (Int × Int × ByteArray)} (h : rightN cntE a kids = true) : hereE a kids.len = true ∧ okNA cntE.here kids = true := by
  unfold rightN at h
  rw [okN_split, Bool.and_eq_true, Bool.and_eq_true, Bool.and_eq_true] at h
  exact ⟨h.1.1, h.1.2.2⟩

set_option maxHeartbeats 1000000 in
theorem iExprText (zk zn : Int) (zs : ByteArray) (kids : Fr (Int × Int × ByteArray)) (A : Option Addr) (c : Nat) (w : World) (hl : kids.size ≤ 1048576) (hz : zs.size ≤ 1048576) (hq : FrOk qSmE kids) (hwz : zs.size + wt gExpr kids ≤ 1048576) (hT : Tab w) (hS : Sl exprC w 0 w.heap.size A kids) : Calls Tryz.prog 9 #[.agg #[.int .i64 zk, .int .i64 zn, .string zs, .slice A kids.len c]] w fun e w' => e = .returned (.string (etx (zk, zn, zs) kids)) ∧ Below w.heap.size w w' := by
  have B := Blk.new w 29 #[.int .i64 zk, .int .i64 zn, .string zs, .slice A kids.len c]
  have L0 := bl_alloc (Below.refl w.heap.size w) (.cells #[.int .i64 zk, .int .i64 zn, .string zs, .slice A kids.len c] 29)
  have C := iExprOk zk zn zs kids A c _ hl hz hq ((hS.below L0 (Nat.le_refl _)).more (Nat.le_refl _) L0.size)
  unfold etx
  cases hR : rightN cntE (zk, zn, zs) kids
  · rw [hR] at C
    rw [if_neg Bool.false_ne_true]
    have CC := Lib.hid C
    clear C hR
    go_enter Tryz.func9, Tryz.ntmps9
    go_wp2_with fail
    refine CC.out.mono ?_; rintro e w1 ⟨rfl, b1⟩
    go_wp2_with fail
    go_ret
    exact ⟨rfl, bl_trans L0 b1⟩
  · rw [hR] at C
    rw [if_pos rfl]
    obtain ⟨h1, h2⟩ := right_parts hR
    have D := fun w h h' => iTextE_any kids.size hl kids (Nat.le_refl _) zk zn zs A c w h1 h2 hwz h h'
    generalize txE (zk, zn, zs) (rowX kids) = t at D ⊢
    have CC := Lib.hid C
    have DD := Lib.hid D
    clear C D hR h1 h2
    go_enter Tryz.func9, Tryz.ntmps9
    go_wp2_with fail
    refine CC.out.mono ?_; rintro e w1 ⟨rfl, b1⟩
    have L1 := bl_trans L0 b1
    have cb := (B.keep b1).cell
    go_wp2_with fail
    refine (DD.out _ (hT.keep L1) ((hS.below L1 (Nat.le_refl _)).more (Nat.le_refl _) L1.size)).mono ?_; rintro e w2 ⟨rfl, b2⟩
    go_wp2_with fail
    go_ret
    exact ⟨rfl, bl_trans L1 b2⟩

set_option maxHeartbeats 1000000 in
theorem sExprText (zk zn : Int) (zs : ByteArray) (kids : Fr (Int × Int × ByteArray)) (A : Option Addr) (c : Nat) (w : World) (hl : kids.size ≤ 1048576) (hz : zs.size ≤ 1048576) (hq : FrOk qSmE kids) (hwz : zs.size + wt gExpr kids ≤ 1048576) (hT : Tab w) (hS : Sl exprC w 0 w.heap.size A kids) : Calls Tryz.prog 7 #[.agg #[.int .i64 zk, .int .i64 zn, .string zs, .slice A kids.len c]] w fun e w' => e = .returned (.string (etx (zk, zn, zs) kids)) ∧ Below w.heap.size w w' := by
  have B := Blk.new w 29 #[.int .i64 zk, .int .i64 zn, .string zs, .slice A kids.len c]
  have L0 := bl_alloc (Below.refl w.heap.size w) (.cells #[.int .i64 zk, .int .i64 zn, .string zs, .slice A kids.len c] 29)
  have C := sExprOk zk zn zs kids A c _ hl hz hq ((hS.below L0 (Nat.le_refl _)).more (Nat.le_refl _) L0.size)
  unfold etx
  cases hR : rightN cntE (zk, zn, zs) kids
  · rw [hR] at C
    rw [if_neg Bool.false_ne_true]
    have CC := Lib.hid C
    clear C hR
    go_enter Tryz.func7, Tryz.ntmps7
    go_wp2_with fail
    refine CC.out.mono ?_; rintro e w1 ⟨rfl, b1⟩
    go_wp2_with fail
    go_ret
    exact ⟨rfl, bl_trans L0 b1⟩
  · rw [hR] at C
    rw [if_pos rfl]
    obtain ⟨h1, h2⟩ := right_parts hR
    have D := fun w h h' => sTextE_any kids.size hl kids (Nat.le_refl _) zk zn zs A c w h1 h2 hwz h h'
    generalize txE (zk, zn, zs) (rowX kids) = t at D ⊢
    have CC := Lib.hid C
    have DD := Lib.hid D
    clear C D hR h1 h2
    go_enter Tryz.func7, Tryz.ntmps7
    go_wp2_with fail
    refine CC.out.mono ?_; rintro e w1 ⟨rfl, b1⟩
    have L1 := bl_trans L0 b1
    have cb := (B.keep b1).cell
    go_wp2_with fail
    refine (DD.out _ (hT.keep L1) ((hS.below L1 (Nat.le_refl _)).more (Nat.le_refl _) L1.size)).mono ?_; rintro e w2 ⟨rfl, b2⟩
    go_wp2_with fail
    go_ret
    exact ⟨rfl, bl_trans L1 b2⟩

end Go.Proofs.YtemlnpncljomgaaGreatDoor
