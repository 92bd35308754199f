/- FnExactSameExpr: the program's SameExpr returns what the reference's returns, for all arguments, and changes no argument. No condition. -/
import Derived.Test.YtblmoakipebicaaLift
import Derived.Test.YtblmoakipebicaaSameE
import Derived.Test.YtblmoakipebicaaSameEI
import Derived.Test.YtblmoakipebicaaExprTo
import Derived.Test.YtblmoakipebicaaExprEq
import Derived.Test.YtblmoakipebicaaExprOp
import Derived.Deep.RegionHeld3
namespace Go.Proofs.Ytblmoakipebicaa
open Go.ChangeShapes Go.WideShapes Go.ChangeAt Go.RowKit

set_option maxHeartbeats 4000000 in
theorem FnExactSameExpr_walk (zk : Int) (zn : Int) (zs : ByteArray) (kids : Fr (Int × Int × ByteArray)) (A : Option Addr) (c : Nat) (zk2 : Int) (zn2 : Int) (zs2 : ByteArray) (kids2 : Fr (Int × Int × ByteArray)) (A2 : Option Addr) (c2 : Nat) (w : World) (hS : Sl exprC w 0 w.heap.size A kids) (hl : kids.len ≤ 9223372036854775807) (hq : FrOk qExpr kids) (ht : zs.size ≤ 9223372036854775807) (hS2 : Sl exprC w 0 w.heap.size A2 kids2) (hl2 : kids2.len ≤ 9223372036854775807) (hq2 : FrOk qExpr kids2) (ht2 : zs2.size ≤ 9223372036854775807) :
    Calls Try.prog 3 #[.agg #[.int .i64 zk, .int .i64 zn, .string zs, .slice A kids.len c], .agg #[.int .i64 zk2, .int .i64 zn2, .string zs2, .slice A2 kids2.len c2]] w fun e w' => e = .returned (.bool true) ∧ Below w.heap.size w w' := by
  have B := (Blk.new w 24 #[.int .i64 zk, .int .i64 zn, .string zs, .slice A kids.len c]).alloc (.cells #[.int .i64 zk2, .int .i64 zn2, .string zs2, .slice A2 kids2.len c2] 24)
  have D := Blk.new2 w (.cells #[.int .i64 zk, .int .i64 zn, .string zs, .slice A kids.len c] 24) 24 #[.int .i64 zk2, .int .i64 zn2, .string zs2, .slice A2 kids2.len c2]
  have L0 := bl_alloc (bl_alloc (Below.refl w.heap.size w) (.cells #[.int .i64 zk, .int .i64 zn, .string zs, .slice A kids.len c] 24)) (.cells #[.int .i64 zk2, .int .i64 zn2, .string zs2, .slice A2 kids2.len c2] 24)
  have cZ := fun w h => szExpr_of zk zn zs kids A c 1048576 w ht (by omega) (by omega) h (fun w' left h0 h1 h => szExprS_any kids.size kids (Nat.le_refl _) hl hq A c left w' h0 h1 h)
  obtain ⟨z, hz⟩ : ∃ z, left_ 1048576 (zs.size + wt gExpr kids) = z := ⟨_, rfl⟩
  rw [hz] at cZ
  have CZ := Lib.hid cZ
  clear cZ
  by_cases hc : z < 0
  · clear hz
    go_enter Try.func3, Try.ntmps3
    go_wp2_with fail
    refine (CZ.out _ ((hS.below L0 (Nat.le_refl _)).more (Nat.le_refl _) L0.size)).mono ?_; rintro e w1 ⟨rfl, b1⟩
    go_wp2_with fail
    go_ret
    exact ⟨rfl, bl_trans L0 b1⟩
  have hp := left_pos (by rw [hz]; exact hc)
  rw [hz] at hp
  have hw := size_wt gExpr kids
  have hz0 : 0 ≤ z ∧ z ≤ 1048576 := by omega
  have hks : kids.size ≤ 1048576 := by omega
  clear hz hp hw
  have cZ2 := fun w h => szExpr_of zk2 zn2 zs2 kids2 A2 c2 z w ht2 hz0.1 hz0.2 h (fun w' left h0 h1 h => szExprS_any kids2.size kids2 (Nat.le_refl _) hl2 hq2 A2 c2 left w' h0 h1 h)
  obtain ⟨y, hy⟩ : ∃ y, left_ z (zs2.size + wt gExpr kids2) = y := ⟨_, rfl⟩
  rw [hy] at cZ2
  have CZ2 := Lib.hid cZ2
  clear cZ2
  by_cases hd : y < 0
  · clear hy
    go_enter Try.func3, Try.ntmps3
    go_wp2_with fail
    refine (CZ.out _ ((hS.below L0 (Nat.le_refl _)).more (Nat.le_refl _) L0.size)).mono ?_; rintro e w1 ⟨rfl, b1⟩
    replace D := D.keep b1
    have L1 := bl_trans L0 b1
    have pD := D.cell
    go_wp2_with fail
    refine (CZ2.out _ ((hS2.below L1 (Nat.le_refl _)).more (Nat.le_refl _) L1.size)).mono ?_; rintro e w2 ⟨rfl, b2⟩
    go_wp2_with fail
    go_ret
    exact ⟨rfl, bl_trans L1 b2⟩
  · have hp := left_pos (by rw [hy]; exact hd)
    have hw := size_wt gExpr kids2
    have hks2 : kids2.size ≤ 1048576 := by omega
    clear hy hp hw
    have CT := Lib.hid fun w h => toExpr_of zk zn zs kids A c w h (fun w' h' => toExprS_any kids.size hks kids A c w' (Nat.le_refl _) h')
    have CT2 := Lib.hid fun w h => toExpr_of zk2 zn2 zs2 kids2 A2 c2 w h (fun w' h' => toExprS_any kids2.size hks2 kids2 A2 c2 w' (Nat.le_refl _) h')
    have CE := Lib.hid fun A A' c c' w h h' => eqExpr_of zk zn zs kids A A' c c' w h h' (fun w' h h' => eqExprS_any kids.size hks kids (Nat.le_refl _) A A' c c' w' h h')
    have CE2 := Lib.hid fun A A' c c' w h h' => eqExpr_of zk2 zn2 zs2 kids2 A A' c c' w h h' (fun w' h h' => eqExprS_any kids2.size hks2 kids2 (Nat.le_refl _) A A' c c' w' h h')
    have cS := fun A c A2 c2 w h h2 => sSame_any kids.size kids (Nat.le_refl _) hks zk zn zs A c zk2 zn2 zs2 kids2 A2 c2 w hks2 h h2
    have cI := fun A c A2 c2 w h h2 => iSame_any kids.size kids (Nat.le_refl _) hks zk zn zs A c zk2 zn2 zs2 kids2 A2 c2 w hks2 h h2
    generalize (labB (zk, zn, zs) (zk2, zn2, zs2) && sameF kids kids2) = Y at cS cI
    have CS := Lib.hid cS
    have CI := Lib.hid cI
    clear cS cI
    go_enter Try.func3, Try.ntmps3
    go_wp2_with fail
    refine (CZ.out _ ((hS.below L0 (Nat.le_refl _)).more (Nat.le_refl _) L0.size)).mono ?_; rintro e w1 ⟨rfl, b1⟩
    have s1 := b1.size
    have L1 := bl_trans L0 b1
    replace B := B.keep b1
    replace D := D.keep b1
    have pD := D.cell
    go_wp2_with fail
    clear pD
    refine (CZ2.out _ ((hS2.below L1 (Nat.le_refl _)).more (Nat.le_refl _) L1.size)).mono ?_; rintro e w2 ⟨rfl, b2⟩
    have s2 := b2.size
    have L2 := bl_trans L1 b2
    replace B := B.keep b2
    replace D := D.keep b2
    have pB := B.cell
    have pD := D.cell
    go_wp2_with fail
    clear pB
    clear pD
    refine wp_region_held_drew (S := (fun x => Blk x w.heap.size 24 #[.int .i64 zk, .int .i64 zn, .string zs, .slice A kids.len c] ∧ Blk x (w.heap.size + 1) 24 #[.int .i64 zk2, .int .i64 zn2, .string zs2, .slice A2 kids2.len c2] ∧ Sl exprC x 0 w.heap.size A kids ∧ Sl exprC x 0 w.heap.size A2 kids2 ∧ w.heap.size ≤ x.heap.size)) (by kernel_rfl) ?_ (fun hHeld => ?_)
    · exact ⟨B.drew, D.drew, (hS.below L2 (Nat.le_refl _)).keep (fun _ _ _ => rfl) (Nat.le_refl _) (Nat.le_refl _), (hS2.below L2 (Nat.le_refl _)).keep (fun _ _ _ => rfl) (Nat.le_refl _) (Nat.le_refl _), L2.size⟩
    refine wpAnyH_take (i := 0) (oi := ⟨some 20, _, _, _, _, _⟩) (v := ?_) rfl (by kernel_rfl) (by kernel_rfl) (by kernel_rfl) (fun _ _ _ h => h) (Or.inl ⟨by rfl, ?_⟩) (by assumption) ?_
    case refine_2 => (intro w hSw; have p := hSw.1.cell; go_simp; first | done | with_reducible rfl)
    simp only [Act.put, List.setIfInBounds_toArray, List.set_cons_zero, List.set_cons_succ]
    refine wpAnyH_take (i := 2) (oi := ⟨some 22, _, _, _, _, _⟩) (v := ?_) rfl (by kernel_rfl) (by kernel_rfl) (by kernel_rfl) (fun _ _ _ h => h) (Or.inl ⟨by rfl, ?_⟩) (by assumption) ?_
    case refine_2 => (intro w hSw; have p := hSw.2.1.cell; go_simp; first | done | with_reducible rfl)
    simp only [Act.put, List.setIfInBounds_toArray, List.set_cons_zero, List.set_cons_succ]
    refine wpAnyH_ready (rs := [1]) (by kernel_rfl) (by simp) ?_
    refine AllReadyH.cons (o := ⟨some 21, _, _, _, _, _⟩) rfl (fun K hK => ?_) AllReadyH.nil
    go_simp
    refine (CT.out _ (hHeld.2.2.1.more (Nat.le_refl _) hHeld.2.2.2.2)).mono ?_; rintro e u1 ⟨⟨Ax, cx, rfl, Xx⟩, bu1⟩
    go_wp2_with fail
    refine hK.out _ _ (⟨hHeld.1.keep bu1, hHeld.2.1.keep bu1, hHeld.2.2.1.below bu1 hHeld.2.2.2.2, hHeld.2.2.2.1.below bu1 hHeld.2.2.2.2, Nat.le_trans hHeld.2.2.2.2 bu1.size⟩) (fun hHeld => ?_)
    clear hK K
    try simp only [Act.put, List.setIfInBounds_toArray, List.set_cons_zero, List.set_cons_succ]
    refine wpAnyH_ready (rs := [3]) (by kernel_rfl) (by simp) ?_
    refine AllReadyH.cons (o := ⟨some 23, _, _, _, _, _⟩) rfl (fun K hK => ?_) AllReadyH.nil
    go_simp
    refine (CT2.out _ (hHeld.2.2.2.1.more (Nat.le_refl _) hHeld.2.2.2.2)).mono ?_; rintro e u2 ⟨⟨Ay, cy, rfl, Xy⟩, bu2⟩
    go_wp2_with fail
    refine hK.out _ _ (⟨hHeld.1.keep bu2, hHeld.2.1.keep bu2, hHeld.2.2.1.below bu2 hHeld.2.2.2.2, hHeld.2.2.2.1.below bu2 hHeld.2.2.2.2, Nat.le_trans hHeld.2.2.2.2 bu2.size⟩) (fun hHeld => ?_)
    clear hK K
    try simp only [Act.put, List.setIfInBounds_toArray, List.set_cons_zero, List.set_cons_succ]
    replace Xx := Xx.below bu2 (Nat.le_refl _)
    refine wpAnyH_ready (rs := [4]) (by kernel_rfl) (by simp) ?_
    refine AllReadyH.cons (o := ⟨some 24, _, _, _, _, _⟩) rfl (fun K hK => ?_) AllReadyH.nil
    go_simp
    refine (CS.out _ _ _ _ _ (Xx.more (Nat.zero_le _) bu2.size) (Xy.more (Nat.zero_le _) (Nat.le_refl _))).mono ?_; rintro e w3 ⟨rfl, bu3⟩
    go_wp2_with fail
    refine hK.out _ _ (⟨hHeld.1.keep bu3, hHeld.2.1.keep bu3, hHeld.2.2.1.below bu3 hHeld.2.2.2.2, hHeld.2.2.2.1.below bu3 hHeld.2.2.2.2, Nat.le_trans hHeld.2.2.2.2 bu3.size⟩) (fun hHeld => ?_)
    clear hK K
    try simp only [Act.put, List.setIfInBounds_toArray, List.set_cons_zero, List.set_cons_succ]
    refine wpAnyH_take (i := 5) (oi := ⟨some 6, _, _, _, _, _⟩) (v := ?_) rfl (by kernel_rfl) (by kernel_rfl) (by kernel_rfl) (fun _ _ _ h => h) (Or.inl ⟨by rfl, ?_⟩) (by assumption) ?_
    case refine_2 => (intro w hSw; skip; go_simp; first | done | with_reducible rfl)
    simp only [Act.put, List.setIfInBounds_toArray, List.set_cons_zero, List.set_cons_succ]
    refine wpAnyH_done (by kernel_rfl) ?_ _
    have b3 := bl_trans (bl_trans (bl_trans (Below.refl w2.heap.size w2).drew bu1) bu2) bu3
    clear hHeld Xx Xy
    have s3 := b3.size
    have L3 := bl_trans L2 b3
    replace B := B.keep b3
    replace D := D.keep b3
    have pB := B.cell
    go_wp2_with fail
    clear pB
    refine (CT.out _ ((hS.below L3 (Nat.le_refl _)).more (Nat.le_refl _) L3.size)).mono ?_; rintro e w4 ⟨⟨Ap, cp, rfl, Xp⟩, b4⟩
    have s4 := b4.size
    have L4 := bl_trans L3 b4
    replace B := B.keep b4
    replace D := D.keep b4
    have pD := (D.alloc (.cells #[.int .i64 zk, .int .i64 zn, .string zs, .slice Ap kids.len cp] 29)).cell
    go_wp2_with fail
    clear pD
    have P := Blk.new w4 29 #[.int .i64 zk, .int .i64 zn, .string zs, .slice Ap kids.len cp]
    have b5 := bl_alloc (Below.refl w4.heap.size w4) (.cells #[.int .i64 zk, .int .i64 zn, .string zs, .slice Ap kids.len cp] 29)
    have hP : w4.heap.size < (w4.alloc (.cells #[.int .i64 zk, .int .i64 zn, .string zs, .slice Ap kids.len cp] 29)).heap.size := by rw [alloc_size]; exact Nat.lt_succ_self _
    generalize w4.alloc (.cells #[.int .i64 zk, .int .i64 zn, .string zs, .slice Ap kids.len cp] 29) = w5 at P b5 hP ⊢
    have s5 := b5.size
    have L5 := bl_trans L4 b5
    replace B := B.keep b5
    replace D := D.keep b5
    replace Xp := Xp.below b5 (by omega)
    refine (CT2.out _ ((hS2.below L5 (Nat.le_refl _)).more (Nat.le_refl _) L5.size)).mono ?_; rintro e w6 ⟨⟨Aq, cq, rfl, Xq⟩, b6⟩
    have s6 := b6.size
    have L6 := bl_trans L5 b6
    replace B := B.keep b6
    replace D := D.keep b6
    replace P := P.keep b6
    replace Xp := Xp.below b6 (by omega)
    have pP := (P.alloc (.cells #[.int .i64 zk2, .int .i64 zn2, .string zs2, .slice Aq kids2.len cq] 29)).cell
    go_wp2_with fail
    clear pP
    have Q := Blk.new w6 29 #[.int .i64 zk2, .int .i64 zn2, .string zs2, .slice Aq kids2.len cq]
    have b7 := bl_alloc (Below.refl w6.heap.size w6) (.cells #[.int .i64 zk2, .int .i64 zn2, .string zs2, .slice Aq kids2.len cq] 29)
    have hQ : w6.heap.size < (w6.alloc (.cells #[.int .i64 zk2, .int .i64 zn2, .string zs2, .slice Aq kids2.len cq] 29)).heap.size := by rw [alloc_size]; exact Nat.lt_succ_self _
    generalize w6.alloc (.cells #[.int .i64 zk2, .int .i64 zn2, .string zs2, .slice Aq kids2.len cq] 29) = w7 at Q b7 hQ ⊢
    have s7 := b7.size
    have L7 := bl_trans L6 b7
    replace B := B.keep b7
    replace D := D.keep b7
    replace P := P.keep b7
    replace Xp := Xp.below b7 (by omega)
    replace Xq := Xq.below b7 (by omega)
    refine (CI.out _ _ _ _ _ (Xp.more (Nat.zero_le _) (by omega)) (Xq.more (Nat.zero_le _) (by omega))).mono ?_; rintro e w8 ⟨rfl, b8⟩
    have s8 := b8.size
    have L8 := bl_trans L7 b8
    replace B := B.keep b8
    replace D := D.keep b8
    replace P := P.keep b8
    replace Q := Q.keep b8
    replace Xp := Xp.below b8 (by omega)
    replace Xq := Xq.below b8 (by omega)
    go_wp2_with fail
    have hww : w.heap.size ≤ w8.heap.size := L8.size
    refine wp_region_held_drew (S := (fun x => Blk x w4.heap.size 29 #[.int .i64 zk, .int .i64 zn, .string zs, .slice Ap kids.len cp] ∧ Blk x w.heap.size 24 #[.int .i64 zk, .int .i64 zn, .string zs, .slice A kids.len c] ∧ Sl exprC x 0 w.heap.size A kids ∧ Sl exprC x 0 w8.heap.size Ap kids ∧ w8.heap.size ≤ x.heap.size)) (by kernel_rfl) ?_ (fun hHeld => ?_)
    · exact ⟨P.drew, B.drew, (hS.below L8 (Nat.le_refl _)).keep (fun _ _ _ => rfl) (Nat.le_refl _) (Nat.le_refl _), Xp.keep (fun _ _ _ => rfl) (Nat.zero_le _) (by omega), Nat.le_refl _⟩
    refine wpAnyH_take (i := 0) (oi := ⟨some 35, _, _, _, _, _⟩) (v := ?_) rfl (by kernel_rfl) (by kernel_rfl) (by kernel_rfl) (fun _ _ _ h => h) (Or.inl ⟨by rfl, ?_⟩) (by assumption) ?_
    case refine_2 => (intro w hSw; have p := hSw.1.cell; go_simp; first | done | with_reducible rfl)
    simp only [Act.put, List.setIfInBounds_toArray, List.set_cons_zero, List.set_cons_succ]
    refine wpAnyH_take (i := 1) (oi := ⟨some 36, _, _, _, _, _⟩) (v := ?_) rfl (by kernel_rfl) (by kernel_rfl) (by kernel_rfl) (fun _ _ _ h => h) (Or.inl ⟨by rfl, ?_⟩) (by assumption) ?_
    case refine_2 => (intro w hSw; have p := hSw.2.1.cell; go_simp; first | done | with_reducible rfl)
    simp only [Act.put, List.setIfInBounds_toArray, List.set_cons_zero, List.set_cons_succ]
    refine wpAnyH_ready (rs := [2]) (by kernel_rfl) (by simp) ?_
    refine AllReadyH.cons (o := ⟨some 37, _, _, _, _, _⟩) rfl (fun K hK => ?_) AllReadyH.nil
    go_simp
    refine (CT.out _ (hHeld.2.2.1.more (Nat.le_refl _) (Nat.le_trans hww hHeld.2.2.2.2))).mono ?_; rintro e u1 ⟨⟨Ae, ce, rfl, Xe⟩, bu1⟩
    go_wp2_with fail
    refine hK.out _ _ (⟨hHeld.1.keep bu1, hHeld.2.1.keep bu1, hHeld.2.2.1.below bu1 (Nat.le_trans hww hHeld.2.2.2.2), hHeld.2.2.2.1.below bu1 hHeld.2.2.2.2, Nat.le_trans hHeld.2.2.2.2 bu1.size⟩) (fun hHeld => ?_)
    clear hK K
    try simp only [Act.put, List.setIfInBounds_toArray, List.set_cons_zero, List.set_cons_succ]
    refine wpAnyH_ready (rs := [3]) (by kernel_rfl) (by simp) ?_
    refine AllReadyH.cons (o := ⟨some 38, _, _, _, _, _⟩) rfl (fun K hK => ?_) AllReadyH.nil
    go_simp
    refine (CE.out _ _ _ _ _ (hHeld.2.2.2.1.more (Nat.le_refl _) hHeld.2.2.2.2) (Xe.more (Nat.zero_le _) (Nat.le_refl _))).mono ?_; rintro e w9 ⟨rfl, bu2⟩
    go_wp2_with fail
    refine hK.out _ _ (⟨hHeld.1.keep bu2, hHeld.2.1.keep bu2, hHeld.2.2.1.below bu2 (Nat.le_trans hww hHeld.2.2.2.2), hHeld.2.2.2.1.below bu2 hHeld.2.2.2.2, Nat.le_trans hHeld.2.2.2.2 bu2.size⟩) (fun hHeld => ?_)
    clear hK K
    try simp only [Act.put, List.setIfInBounds_toArray, List.set_cons_zero, List.set_cons_succ]
    refine wpAnyH_take (i := 4) (oi := ⟨some 39, _, _, _, _, _⟩) (v := ?_) rfl (by kernel_rfl) (by kernel_rfl) (by kernel_rfl) (fun _ _ _ h => h) (Or.inl ⟨by rfl, ?_⟩) (by assumption) ?_
    case refine_2 => (intro w hSw; skip; go_simp; first | done | with_reducible rfl)
    simp only [Act.put, List.setIfInBounds_toArray, List.set_cons_zero, List.set_cons_succ]
    refine wpAnyH_done (by kernel_rfl) ?_ _
    have b9 := bl_trans (bl_trans (Below.refl w8.heap.size w8).drew bu1) bu2
    clear hww hHeld
    have s9 := b9.size
    have L9 := bl_trans L8 b9
    replace B := B.keep b9
    replace D := D.keep b9
    replace P := P.keep b9
    replace Q := Q.keep b9
    replace Xp := Xp.below b9 (by omega)
    replace Xq := Xq.below b9 (by omega)
    go_wp2_with fail
    have hww : w.heap.size ≤ w9.heap.size := L9.size
    refine wp_region_held_drew (S := (fun x => Blk x w6.heap.size 29 #[.int .i64 zk2, .int .i64 zn2, .string zs2, .slice Aq kids2.len cq] ∧ Blk x (w.heap.size + 1) 24 #[.int .i64 zk2, .int .i64 zn2, .string zs2, .slice A2 kids2.len c2] ∧ Sl exprC x 0 w.heap.size A2 kids2 ∧ Sl exprC x 0 w9.heap.size Aq kids2 ∧ w9.heap.size ≤ x.heap.size)) (by kernel_rfl) ?_ (fun hHeld => ?_)
    · exact ⟨Q.drew, D.drew, (hS2.below L9 (Nat.le_refl _)).keep (fun _ _ _ => rfl) (Nat.le_refl _) (Nat.le_refl _), Xq.keep (fun _ _ _ => rfl) (Nat.zero_le _) (by omega), Nat.le_refl _⟩
    refine wpAnyH_take (i := 0) (oi := ⟨some 40, _, _, _, _, _⟩) (v := ?_) rfl (by kernel_rfl) (by kernel_rfl) (by kernel_rfl) (fun _ _ _ h => h) (Or.inl ⟨by rfl, ?_⟩) (by assumption) ?_
    case refine_2 => (intro w hSw; have p := hSw.1.cell; go_simp; first | done | with_reducible rfl)
    simp only [Act.put, List.setIfInBounds_toArray, List.set_cons_zero, List.set_cons_succ]
    refine wpAnyH_take (i := 1) (oi := ⟨some 41, _, _, _, _, _⟩) (v := ?_) rfl (by kernel_rfl) (by kernel_rfl) (by kernel_rfl) (fun _ _ _ h => h) (Or.inl ⟨by rfl, ?_⟩) (by assumption) ?_
    case refine_2 => (intro w hSw; have p := hSw.2.1.cell; go_simp; first | done | with_reducible rfl)
    simp only [Act.put, List.setIfInBounds_toArray, List.set_cons_zero, List.set_cons_succ]
    refine wpAnyH_ready (rs := [2]) (by kernel_rfl) (by simp) ?_
    refine AllReadyH.cons (o := ⟨some 42, _, _, _, _, _⟩) rfl (fun K hK => ?_) AllReadyH.nil
    go_simp
    refine (CT2.out _ (hHeld.2.2.1.more (Nat.le_refl _) (Nat.le_trans hww hHeld.2.2.2.2))).mono ?_; rintro e u1 ⟨⟨Ae, ce, rfl, Xe⟩, bu1⟩
    go_wp2_with fail
    refine hK.out _ _ (⟨hHeld.1.keep bu1, hHeld.2.1.keep bu1, hHeld.2.2.1.below bu1 (Nat.le_trans hww hHeld.2.2.2.2), hHeld.2.2.2.1.below bu1 hHeld.2.2.2.2, Nat.le_trans hHeld.2.2.2.2 bu1.size⟩) (fun hHeld => ?_)
    clear hK K
    try simp only [Act.put, List.setIfInBounds_toArray, List.set_cons_zero, List.set_cons_succ]
    refine wpAnyH_ready (rs := [3]) (by kernel_rfl) (by simp) ?_
    refine AllReadyH.cons (o := ⟨some 43, _, _, _, _, _⟩) rfl (fun K hK => ?_) AllReadyH.nil
    go_simp
    refine (CE2.out _ _ _ _ _ (hHeld.2.2.2.1.more (Nat.le_refl _) hHeld.2.2.2.2) (Xe.more (Nat.zero_le _) (Nat.le_refl _))).mono ?_; rintro e w10 ⟨rfl, bu2⟩
    go_wp2_with fail
    refine hK.out _ _ (⟨hHeld.1.keep bu2, hHeld.2.1.keep bu2, hHeld.2.2.1.below bu2 (Nat.le_trans hww hHeld.2.2.2.2), hHeld.2.2.2.1.below bu2 hHeld.2.2.2.2, Nat.le_trans hHeld.2.2.2.2 bu2.size⟩) (fun hHeld => ?_)
    clear hK K
    try simp only [Act.put, List.setIfInBounds_toArray, List.set_cons_zero, List.set_cons_succ]
    refine wpAnyH_take (i := 4) (oi := ⟨some 44, _, _, _, _, _⟩) (v := ?_) rfl (by kernel_rfl) (by kernel_rfl) (by kernel_rfl) (fun _ _ _ h => h) (Or.inl ⟨by rfl, ?_⟩) (by assumption) ?_
    case refine_2 => (intro w hSw; skip; go_simp; first | done | with_reducible rfl)
    simp only [Act.put, List.setIfInBounds_toArray, List.set_cons_zero, List.set_cons_succ]
    refine wpAnyH_done (by kernel_rfl) ?_ _
    have b10 := bl_trans (bl_trans (Below.refl w9.heap.size w9).drew bu1) bu2
    clear hww hHeld
    have s10 := b10.size
    have L10 := bl_trans L9 b10
    replace B := B.keep b10
    replace D := D.keep b10
    replace P := P.keep b10
    replace Q := Q.keep b10
    replace Xp := Xp.below b10 (by omega)
    replace Xq := Xq.below b10 (by omega)
    go_wp2_with fail
    go_ret
    exact ⟨rfl, L10⟩

set_option maxRecDepth 100000 in
theorem FnExactSameExpr_args {H : Type} {enc : TypeId × Value → H} (W : World) (base : Nat) (args : Array Value) (ds : List (DataW H)) (p : List MemPlace)
    (hval : ∀ (j : Nat) t v, Try.f3.params[j]? = some t → args[j]? = some v → Value.okWide Try.checked.prog W .any base t v)
    (hA : DataW.TrodAll enc Try.checked.prog W 0 (fun _ => true) true Try.f3.params.toList args.toList ds p) :
    Calls Try.checked.prog 3 args W fun e W' => e = .returned (.bool true) ∧ Below W.heap.size W W' := by
  rw [Try.params3] at hA hval
  obtain ⟨v0, v1, d0, d1, p0, p1, rfl, rfl, rfl, h0, h1⟩ := trodAll_two hA
  obtain ⟨zk, zn, zs, A, c, kids, rfl, hS, hl, hq, ht⟩ := open_trExpr W v0 d0 p0 (hval 0 24 v0 rfl rfl) h0
  obtain ⟨zk2, zn2, zs2, A2, c2, kids2, rfl, hS2, hl2, hq2, ht2⟩ := open_trExpr W v1 d1 p1 (hval 1 24 v1 rfl rfl) h1
  exact FnExactSameExpr_walk zk zn zs kids A c zk2 zn2 zs2 kids2 A2 c2 W hS hl hq ht hS2 hl2 hq2 ht2

set_option maxRecDepth 100000 in
theorem FnExactSameExpr_holds : Rows.FnExactSameExprSaid :=
  OpenClaim.holds_of_wide 3 Try.f3 rfl rfl rfl rfl rfl rfl rfl ⟨rfl, rfl, rfl, rfl, rfl⟩ rfl rfl rfl rfl rfl (by kernel_rfl) Try.func3 (by kernel_rfl)
    (of_decide_eq_true (by kernel_rfl)) (by unfold Func.isWrapper; rw [if_neg (of_decide_eq_false (by kernel_rfl))]; exact ⟨rfl, rfl⟩)
    (fun os started H enc _ => law_lift 3 Try.f3 Rows.fnExactSameExprSpec 4 own laidOut started (by kernel_rfl) Try.func3 (by kernel_rfl) rfl (by kernel_rfl) Try.underlying4
      (fun ds h => by
        have hl : ds.length = 2 := h.trans (by kernel_rfl)
        obtain ⟨a, b, rfl⟩ := len2 hl
        rfl)
      (ChangeSpec.witness6 (enc := enc) (C := Try.checked) false ⟨#[], #[.agg #[.int .i64 0, .int .i64 0, .string ⟨#[]⟩, .slice none 0 0], .agg #[.int .i64 0, .int .i64 0, .string ⟨#[]⟩, .slice none 0 0]], []⟩ 8 (by kernel_rfl) (by kernel_rfl) (by kernel_rfl) (by kernel_rfl))
      FnExactSameExpr_args)
#print axioms FnExactSameExpr_holds

end Go.Proofs.Ytblmoakipebicaa
