/- FnExactExprText: the program's ExprText returns what the reference's returns, for all arguments, and changes no argument. The library's tables hold what the program's text lays in them. -/
import Derived.Test.YtemlnpncljomgaaGreatDoorQ0
import Derived.Deep.RegionHeld3
import Derived.Test.YtemlnpncljomgaaGreatDoorExprTx
import Derived.Lib.SmallJoins
namespace Go.Proofs.YtemlnpncljomgaaGreatDoor
open Go.ChangeShapes Go.WideShapes Go.ChangeAt Go.RowKit Go.Joins
open Go.ChangeMaps (open_string shut_string)

set_option maxHeartbeats 4000000 in
theorem FnExactExprText_walk (zk : Int) (zn : Int) (zs : ByteArray) (kids : Fr (Int × Int × ByteArray)) (A : Option Addr) (c : Nat) (w : World) (T_ : Tab w) (hS : Sl exprC w 0 w.heap.size A kids) (hl : kids.len ≤ 9223372036854775807) (hq : FrOk qExpr kids) (ht : zs.size ≤ 9223372036854775807) :
    Calls Tryz.prog 3 #[.agg #[.int .i64 zk, .int .i64 zn, .string zs, .slice A kids.len c]] w fun e w' => e = .returned (.bool true) ∧ Below w.heap.size w w' := by
  have B := Blk.new w 24 #[.int .i64 zk, .int .i64 zn, .string zs, .slice A kids.len c]
  have L0 := bl_alloc (Below.refl w.heap.size w) (.cells #[.int .i64 zk, .int .i64 zn, .string zs, .slice A kids.len c] 24)
  replace T_ := T_.keep L0
  have cZ := fun w h => szExpr_of zk zn zs kids A c 1048576 w ht (by omega) (by omega) h (fun w' left h0 h1 h => szExprS_any kids.size kids (Nat.le_refl _) hl hq A c left w' h0 h1 h)
  obtain ⟨z, hz⟩ : ∃ z, left_ 1048576 (zs.size + wt gExpr kids) = z := ⟨_, rfl⟩
  rw [hz] at cZ
  have CZ := Lib.hid cZ
  clear cZ
  by_cases hc : z < 0
  · clear hz
    go_enter Tryz.func3, Tryz.ntmps3
    go_wp2_with fail
    refine (CZ.out _ ((hS.below L0 (Nat.le_refl _)).more (Nat.le_refl _) L0.size)).mono ?_; rintro e w1 ⟨rfl, b1⟩
    go_wp2_with fail
    go_ret
    exact ⟨rfl, bl_trans L0 b1⟩
  · have hp := left_pos (by rw [hz]; exact hc)
    have hw := size_wt gExpr kids
    have hks : kids.size ≤ 1048576 := by omega
    have htt : zs.size ≤ 1048576 := by omega
    have hwt : zs.size + wt gExpr kids ≤ 1048576 := by omega
    have hsm : FrOk qSmE kids := small_of_wtE kids gExpr (fun _ => rfl) (by omega)
    clear hz hp hw
    have CT := Lib.hid fun w h => toExpr_of zk zn zs kids A c w h (fun w' h' => toExprS_any kids.size hks kids A c w' (Nat.le_refl _) h')
    have CE := Lib.hid fun A A' c c' w h h' => eqExpr_of zk zn zs kids A A' c c' w h h' (fun w' h h' => eqExprS_any kids.size hks kids (Nat.le_refl _) A A' c c' w' h h')
    have cS := fun A c w (T_ : Tab w) h => sExprText zk zn zs kids A c w hks htt hsm hwt T_ h
    have cI := fun A c w (T_ : Tab w) h => iExprText zk zn zs kids A c w hks htt hsm hwt T_ h
    generalize etx (zk, zn, zs) kids = Y at cS cI
    have CS := Lib.hid cS
    have CI := Lib.hid cI
    clear cS cI
    go_enter Tryz.func3, Tryz.ntmps3
    go_wp2_with fail
    refine (CZ.out _ ((hS.below L0 (Nat.le_refl _)).more (Nat.le_refl _) L0.size)).mono ?_; rintro e w1 ⟨rfl, b1⟩
    have s1 := b1.size
    replace T_ := T_.keep b1
    have L1 := bl_trans L0 b1
    replace B := B.keep b1
    have pB := B.cell
    go_wp2_with fail
    clear pB
    refine (CT.out _ ((hS.below L1 (Nat.le_refl _)).more (Nat.le_refl _) L1.size)).mono ?_; rintro e w2 ⟨⟨Ax, cx, rfl, Xx⟩, b2⟩
    have s2 := b2.size
    replace T_ := T_.keep b2
    have L2 := bl_trans L1 b2
    replace B := B.keep b2
    go_wp2_with fail
    refine (CS.out _ _ _ T_ (Xx.more (Nat.zero_le _) (by omega))).mono ?_; rintro e w3 ⟨rfl, b3⟩
    have s3 := b3.size
    replace T_ := T_.keep b3
    have L3 := bl_trans L2 b3
    replace B := B.keep b3
    replace Xx := Xx.below b3 (by omega)
    have pB := B.cell
    go_wp2_with fail
    clear pB
    refine (CT.out _ ((hS.below L3 (Nat.le_refl _)).more (Nat.le_refl _) L3.size)).mono ?_; rintro e w4 ⟨⟨Ap, cp, rfl, Xp⟩, b4⟩
    have s4 := b4.size
    replace T_ := T_.keep b4
    have L4 := bl_trans L3 b4
    replace B := B.keep b4
    go_wp2_with fail
    have P := Blk.new w4 29 #[.int .i64 zk, .int .i64 zn, .string zs, .slice Ap kids.len cp]
    have b5 := bl_alloc (Below.refl w4.heap.size w4) (.cells #[.int .i64 zk, .int .i64 zn, .string zs, .slice Ap kids.len cp] 29)
    have hP : w4.heap.size < (w4.alloc (.cells #[.int .i64 zk, .int .i64 zn, .string zs, .slice Ap kids.len cp] 29)).heap.size := by rw [alloc_size]; exact Nat.lt_succ_self _
    generalize w4.alloc (.cells #[.int .i64 zk, .int .i64 zn, .string zs, .slice Ap kids.len cp] 29) = w5 at P b5 hP ⊢
    have s5 := b5.size
    replace T_ := T_.keep b5
    have L5 := bl_trans L4 b5
    replace B := B.keep b5
    replace Xp := Xp.below b5 (by omega)
    refine (CI.out _ _ _ T_ (Xp.more (Nat.zero_le _) (by omega))).mono ?_; rintro e w6 ⟨rfl, b6⟩
    have s6 := b6.size
    replace T_ := T_.keep b6
    have L6 := bl_trans L5 b6
    replace B := B.keep b6
    replace P := P.keep b6
    replace Xp := Xp.below b6 (by omega)
    go_wp2_with fail
    have hww : w.heap.size ≤ w6.heap.size := L6.size
    refine wp_region_held_drew (S := (fun x => Blk x w4.heap.size 29 #[.int .i64 zk, .int .i64 zn, .string zs, .slice Ap kids.len cp] ∧ Blk x w.heap.size 24 #[.int .i64 zk, .int .i64 zn, .string zs, .slice A kids.len c] ∧ Sl exprC x 0 w.heap.size A kids ∧ Sl exprC x 0 w6.heap.size Ap kids ∧ w6.heap.size ≤ x.heap.size)) (by kernel_rfl) ?_ (fun hHeld => ?_)
    · exact ⟨P.drew, B.drew, (hS.below L6 (Nat.le_refl _)).keep (fun _ _ _ => rfl) (Nat.le_refl _) (Nat.le_refl _), Xp.keep (fun _ _ _ => rfl) (Nat.zero_le _) (by omega), Nat.le_refl _⟩
    refine wpAnyH_take (i := 0) (oi := ⟨some 22, _, _, _, _, _⟩) (v := ?_) rfl (by kernel_rfl) (by kernel_rfl) (by kernel_rfl) (fun _ _ _ h => h) (Or.inl ⟨by rfl, ?_⟩) (by assumption) ?_
    case refine_2 => (intro w hSw; have p := hSw.1.cell; go_simp; first | done | with_reducible rfl)
    simp only [Act.put, List.setIfInBounds_toArray, List.set_cons_zero, List.set_cons_succ]
    refine wpAnyH_take (i := 1) (oi := ⟨some 23, _, _, _, _, _⟩) (v := ?_) rfl (by kernel_rfl) (by kernel_rfl) (by kernel_rfl) (fun _ _ _ h => h) (Or.inl ⟨by rfl, ?_⟩) (by assumption) ?_
    case refine_2 => (intro w hSw; have p := hSw.2.1.cell; go_simp; first | done | with_reducible rfl)
    simp only [Act.put, List.setIfInBounds_toArray, List.set_cons_zero, List.set_cons_succ]
    refine wpAnyH_ready (rs := [2]) (by kernel_rfl) (by simp) ?_
    refine AllReadyH.cons (o := ⟨some 24, _, _, _, _, _⟩) rfl (fun K hK => ?_) AllReadyH.nil
    go_simp
    refine (CT.out _ (hHeld.2.2.1.more (Nat.le_refl _) (Nat.le_trans hww hHeld.2.2.2.2))).mono ?_; rintro e u1 ⟨⟨Ae, ce, rfl, Xe⟩, bu1⟩
    go_wp2_with fail
    refine hK.out _ _ (⟨hHeld.1.keep bu1, hHeld.2.1.keep bu1, hHeld.2.2.1.below bu1 (Nat.le_trans hww hHeld.2.2.2.2), hHeld.2.2.2.1.below bu1 hHeld.2.2.2.2, Nat.le_trans hHeld.2.2.2.2 bu1.size⟩) (fun hHeld => ?_)
    clear hK K
    try simp only [Act.put, List.setIfInBounds_toArray, List.set_cons_zero, List.set_cons_succ]
    refine wpAnyH_ready (rs := [3]) (by kernel_rfl) (by simp) ?_
    refine AllReadyH.cons (o := ⟨some 25, _, _, _, _, _⟩) rfl (fun K hK => ?_) AllReadyH.nil
    go_simp
    refine (CE.out _ _ _ _ _ (hHeld.2.2.2.1.more (Nat.le_refl _) hHeld.2.2.2.2) (Xe.more (Nat.zero_le _) (Nat.le_refl _))).mono ?_; rintro e w7 ⟨rfl, bu2⟩
    go_wp2_with fail
    refine hK.out _ _ (⟨hHeld.1.keep bu2, hHeld.2.1.keep bu2, hHeld.2.2.1.below bu2 (Nat.le_trans hww hHeld.2.2.2.2), hHeld.2.2.2.1.below bu2 hHeld.2.2.2.2, Nat.le_trans hHeld.2.2.2.2 bu2.size⟩) (fun hHeld => ?_)
    clear hK K
    try simp only [Act.put, List.setIfInBounds_toArray, List.set_cons_zero, List.set_cons_succ]
    refine wpAnyH_take (i := 4) (oi := ⟨some 26, _, _, _, _, _⟩) (v := ?_) rfl (by kernel_rfl) (by kernel_rfl) (by kernel_rfl) (fun _ _ _ h => h) (Or.inl ⟨by rfl, ?_⟩) (by assumption) ?_
    case refine_2 => (intro w hSw; skip; go_simp; first | done | with_reducible rfl)
    simp only [Act.put, List.setIfInBounds_toArray, List.set_cons_zero, List.set_cons_succ]
    refine wpAnyH_done (by kernel_rfl) ?_ _
    have b7 := bl_trans (bl_trans (Below.refl w6.heap.size w6).drew bu1) bu2
    clear hww hHeld
    have s7 := b7.size
    replace T_ := T_.keep b7
    have L7 := bl_trans L6 b7
    replace B := B.keep b7
    replace P := P.keep b7
    replace Xp := Xp.below b7 (by omega)
    go_wp2_with fail
    go_ret
    exact ⟨rfl, L7⟩

set_option maxRecDepth 100000 in
theorem FnExactExprText_args {H : Type} {enc : TypeId × Value → H} (W : World) (base : Nat) (args : Array Value) (ds : List (DataW H)) (p : List MemPlace)
    (hval : ∀ (j : Nat) t v, Tryz.f3.params[j]? = some t → args[j]? = some v → Value.okWide Tryz.checked.prog W .any base t v)
    (hA : DataW.TrodAll enc Tryz.checked.prog W 0 (fun _ => true) true Tryz.f3.params.toList args.toList ds p)
    (hL : laidMetH Tryz.checked.prog laidL W) :
    Calls Tryz.checked.prog 3 args W fun e W' => e = .returned (.bool true) ∧ Below W.heap.size W W' := by
  rw [Tryz.params3] at hA hval
  obtain ⟨v0, d0, rfl, rfl, h0⟩ := trodAll_one hA
  obtain ⟨zk, zn, zs, A, c, kids, rfl, hS, hl, hq, ht⟩ := open_trExpr W v0 d0 p (hval 0 24 v0 rfl rfl) h0
  exact FnExactExprText_walk zk zn zs kids A c W (tab_of_laid hL) hS hl hq ht

set_option maxRecDepth 100000 in
theorem FnExactExprText_holds : Rows.FnExactExprTextSaid :=
  OpenClaim.holds_of_wide 3 Tryz.f3 rfl rfl rfl rfl rfl rfl rfl ⟨rfl, rfl, rfl, rfl, rfl⟩ rfl rfl rfl rfl rfl (by kernel_rfl) Tryz.func3 (by kernel_rfl)
    (of_decide_eq_true (by kernel_rfl)) (by unfold Func.isWrapper; rw [if_neg (of_decide_eq_false (by kernel_rfl))]; exact ⟨rfl, rfl⟩)
    (fun os started H enc _ => law_lift_laid laidL 3 Tryz.f3 Rows.fnExactExprTextSpec 4 own laidOut started (by kernel_rfl) Tryz.func3 (by kernel_rfl) rfl (by kernel_rfl) Tryz.underlying4
      (fun ds h => by
        have hl : ds.length = 1 := h.trans (by kernel_rfl)
        obtain ⟨d, rfl⟩ := len1 hl
        rfl)
      (ChangeSpec.witness_shaped (enc := enc) (C := Tryz.checked) (os := os) (X := fun w _ => laidMetH Tryz.checked.prog laidL w) false (World.doorLaid Tryz.prog 600 os) #[.agg #[.int .i64 0, .int .i64 0, .string ⟨#[]⟩, .slice none 0 0]] 8 rfl (World.shaped_of_RefB (by kernel_rfl) (by kernel_rfl)) (by kernel_rfl) (by kernel_rfl) (by kernel_rfl) (door_met os _))
      FnExactExprText_args)
theorem FnExactExprText_card : Rows.FnExactExprTextCardSaid :=
  Claim7.holds_tied_plain_at .later [] [.data, .data, .data] true Rows.fnExactExprTextCard.stood.harness false
    FnExactExprText_holds (fun _ h => by cases h) (by kernel_rfl) (fun _ h => by cases h) fnExactExprText_row_tie rfl ⟨rfl, rfl⟩ (by kernel_rfl) rfl
    (fun f fn hf hfn => by
      obtain rfl : f = 3 := Option.some.inj ((show Tryz.prog.funcNamed Rows.fnExactExprTextRow.func = some 3 by kernel_rfl).symm.trans hf) |>.symm
      obtain rfl : fn = Tryz.f3 := (Option.some.inj (Tryz.func3.symm.trans hfn)).symm
      exact ⟨by kernel_rfl, fun j t ht => by
        have hm : t ∈ Tryz.f3.params.toList := by simpa using Array.mem_of_getElem? ht
        have hall : (Tryz.f3.params.toList.all fun u => !Tryz.prog.wantsStandIn u) = true := by kernel_rfl
        exact (show Tryz.prog.wantsStandIn t = false by simpa using List.all_eq_true.1 hall t hm)⟩)
    (by kernel_rfl)
#print axioms FnExactExprText_card

end Go.Proofs.YtemlnpncljomgaaGreatDoor
