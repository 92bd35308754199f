import Derived.Test.YtemlnpncljomgaaGreatDoorRexTi
import Derived.Test.YtemlnpncljomgaaGreatDoorRexOk
namespace Go.Proofs.YtemlnpncljomgaaGreatDoor
open Go.RowKit

def rexTx (k : Int) (s : ByteArray) (kids : Fr (Int × ByteArray)) : ByteArray := if rexB k s kids = true then textOf k s (rowT kids) else ⟨#[]⟩
theorem rexB_ok {k : Int} {s : ByteArray} {kids : Fr (Int × ByteArray)} (h : rexB k s kids = true) : hereB k s kids = true ∧ okA kids = true := by
  unfold rexB at h
  rw [okG_split, Bool.and_eq_true, Bool.and_eq_true, Bool.and_eq_true] at h
  exact ⟨h.1.1, h.1.2.2⟩

set_option maxHeartbeats 1000000 in
theorem iRexText (zk : Int) (zs : ByteArray) (kids : Fr (Int × ByteArray)) (A : Option Addr) (c : Nat) (w : World) (hl : kids.size ≤ 1048576) (hz : zs.size ≤ 1048576) (hq : FrOk qSmall kids) (hw : zs.size + wt gRex kids ≤ 1048576) (hS : Sl rexC w 0 w.heap.size A kids) : Calls Tryz.prog 87 #[.agg #[.int .i64 zk, .string zs, .slice A kids.len c]] w fun e w' => e = .returned (.string (rexTx zk zs kids)) ∧ Below w.heap.size w w' := by
  have B := Blk.new w 82 #[.int .i64 zk, .string zs, .slice A kids.len c]
  have L0 := bl_alloc (Below.refl w.heap.size w) (.cells #[.int .i64 zk, .string zs, .slice A kids.len c] 82)
  have C := iRexOk zk zs kids A c _ hl hz hq ((hS.below L0 (Nat.le_refl _)).more (Nat.le_refl _) L0.size)
  unfold rexTx
  cases hb : rexB zk zs kids
  · rw [hb] at C
    have CC := Lib.hid C
    clear C
    rw [if_neg Bool.false_ne_true]
    go_enter Tryz.func87, Tryz.ntmps87
    go_wp2_with fail
    refine CC.out.mono ?_; rintro e w1 ⟨rfl, b1⟩
    go_wp2_with fail
    go_ret
    exact ⟨rfl, bl_trans L0 b1⟩
  · rw [hb] at C
    have CC := Lib.hid C
    clear C
    rw [if_pos rfl]
    obtain ⟨h1, h2⟩ := rexB_ok hb
    have D := fun (w : World) (h : Sl rexC w 0 w.heap.size A kids) => iText_any kids.size kids (Nat.le_refl _) hl zk zs A c none 0 0 [] w h1 h2 hw h (KIn.none_ _)
    rw [wrap_no (ks := []) rfl] at D
    generalize textOf zk zs (rowT kids) = T at D ⊢
    have DD := Lib.hid D
    clear D h1 h2
    go_enter Tryz.func87, Tryz.ntmps87
    go_wp2_with fail
    refine CC.out.mono ?_; rintro e w1 ⟨rfl, b1⟩
    have L1 := bl_trans L0 b1
    have cb := (Blk.keep B b1).cell
    go_wp2_with fail
    refine (DD.out _ ((hS.below L1 (Nat.le_refl _)).more (Nat.le_refl _) L1.size)).mono ?_; rintro e w2 ⟨rfl, b2⟩
    go_wp2_with fail
    go_ret
    exact ⟨rfl, bl_trans L1 b2⟩

set_option maxHeartbeats 1000000 in
theorem sRexText (zk : Int) (zs : ByteArray) (kids : Fr (Int × ByteArray)) (A : Option Addr) (c : Nat) (w : World) (hl : kids.size ≤ 1048576) (hz : zs.size ≤ 1048576) (hq : FrOk qSmall kids) (hw : zs.size + wt gRex kids ≤ 1048576) (hS : Sl rexC w 0 w.heap.size A kids) : Calls Tryz.prog 82 #[.agg #[.int .i64 zk, .string zs, .slice A kids.len c]] w fun e w' => e = .returned (.string (rexTx zk zs kids)) ∧ Below w.heap.size w w' := by
  have B := Blk.new w 82 #[.int .i64 zk, .string zs, .slice A kids.len c]
  have L0 := bl_alloc (Below.refl w.heap.size w) (.cells #[.int .i64 zk, .string zs, .slice A kids.len c] 82)
  have C := sRexOk zk zs kids A c _ hl hz hq ((hS.below L0 (Nat.le_refl _)).more (Nat.le_refl _) L0.size)
  unfold rexTx
  cases hb : rexB zk zs kids
  · rw [hb] at C
    have CC := Lib.hid C
    clear C
    rw [if_neg Bool.false_ne_true]
    go_enter Tryz.func82, Tryz.ntmps82
    go_wp2_with fail
    refine CC.out.mono ?_; rintro e w1 ⟨rfl, b1⟩
    go_wp2_with fail
    go_ret
    exact ⟨rfl, bl_trans L0 b1⟩
  · rw [hb] at C
    have CC := Lib.hid C
    clear C
    rw [if_pos rfl]
    obtain ⟨h1, h2⟩ := rexB_ok hb
    have D := fun (w : World) (h : Sl rexC w 0 w.heap.size A kids) => sText_any kids.size kids (Nat.le_refl _) hl zk zs A c w h1 h2 hw h
    generalize textOf zk zs (rowT kids) = T at D ⊢
    have DD := Lib.hid D
    clear D h1 h2
    go_enter Tryz.func82, Tryz.ntmps82
    go_wp2_with fail
    refine CC.out.mono ?_; rintro e w1 ⟨rfl, b1⟩
    have L1 := bl_trans L0 b1
    have cb := (Blk.keep B b1).cell
    go_wp2_with fail
    refine (DD.out _ ((hS.below L1 (Nat.le_refl _)).more (Nat.le_refl _) L1.size)).mono ?_; rintro e w2 ⟨rfl, b2⟩
    go_wp2_with fail
    go_ret
    exact ⟨rfl, bl_trans L1 b2⟩

end Go.Proofs.YtemlnpncljomgaaGreatDoor
