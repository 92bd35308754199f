import Derived.Test.YtemlnpncljomgaaGreatDoorQ0
import Derived.Test.YtemlnpncljomgaaGreatDoorQ1
import Derived.Deep.RegionHeld3
import Derived.Test.YtemlnpncljomgaaGreatDoorStmtTi
import Derived.Test.YtemlnpncljomgaaGreatDoorStmtTs
import Derived.Lib.SmallJoins
namespace Go.Proofs.YtemlnpncljomgaaGreatDoor
open Go.ChangeShapes Go.WideShapes Go.ChangeAt Go.RowKit Go.Joins
open Go.ChangeMaps (open_string shut_string)

set_option maxHeartbeats 4000000 in
theorem FnExactStmtText_walk (zk : Int) (zs zt : ByteArray) (x : Fr (Int × Int × ByteArray)) (p q : St) (X : Option Addr) (cx : Nat) (P : Option Addr) (cp : Nat) (Q : Option Addr) (cq : Nat) (w : World) (T_ : Tab w) (ht : qStmt (zk, zs, zt)) (hS : Tri w 0 w.heap.size X x P p Q q) (hl : x.len ≤ 9223372036854775807 ∧ p.len ≤ 9223372036854775807 ∧ q.len ≤ 9223372036854775807) (hx : FrOk qExpr x) (hp : StOk qStmt qExpr p) (hq : StOk qStmt qExpr q) :
    Calls Tryz.prog 4 #[.agg #[.int .i64 zk, .string zs, .string zt, .slice X x.len cx, .slice P p.len cp, .slice Q q.len cq]] w fun e w' => e = .returned (.bool true) ∧ Below w.heap.size w w' := by
  have B := Blk.new w 35 #[.int .i64 zk, .string zs, .string zt, .slice X x.len cx, .slice P p.len cp, .slice Q q.len cq]
  have L0 := bl_alloc (Below.refl w.heap.size w) (.cells #[.int .i64 zk, .string zs, .string zt, .slice X x.len cx, .slice P p.len cp, .slice Q q.len cq] 35)
  replace T_ := T_.keep L0
  have cZ := fun w (h : Tri w 0 w.heap.size X x P p Q q) => szStmt_of zk zs zt x p q X cx P cp Q cq 1048576 w ht (by omega) (by omega) h.1 h.2.1 h.2.2 (fun w' left h0 h1 h => szExprS_any x.size x (Nat.le_refl _) hl.1 hx X cx left w' h0 h1 h) (fun w' left h0 h1 h => szStmtS_any p.size p (Nat.le_refl _) hl.2.1 hp P cp left w' h0 h1 h) (fun w' left h0 h1 h => szStmtS_any q.size q (Nat.le_refl _) hl.2.2 hq Q cq left w' h0 h1 h)
  obtain ⟨z, hz⟩ : ∃ z, left_ 1048576 (zs.size + zt.size + wt gExpr x + wtS gExpr p + wtS gExpr q) = z := ⟨_, rfl⟩
  rw [hz] at cZ
  have CZ := Lib.hid cZ
  clear cZ
  by_cases hc : z < 0
  · clear hz
    go_enter Tryz.func4, Tryz.ntmps4
    go_wp2_with fail
    refine (CZ.out _ ((hS.below L0 (Nat.le_refl _)).more (Nat.le_refl _) L0.size)).mono ?_; rintro e w1 ⟨rfl, b1⟩
    go_wp2_with fail
    go_ret
    exact ⟨rfl, bl_trans L0 b1⟩
  · have hp_ := left_pos (by rw [hz]; exact hc)
    have hw1 := size_wt gExpr x
    have hw2 := size_wtS gExpr p
    have hw3 := size_wtS gExpr q
    have hks : x.size + p.size + q.size ≤ 1048576 := by omega
    have hwt : zs.size + zt.size + wt gExpr x + wtS gExpr p + wtS gExpr q ≤ 1048576 := by omega
    have hzz : zs.size ≤ 1048576 ∧ zt.size ≤ 1048576 := by omega
    have hsm : StOk qSmS qSmE p ∧ StOk qSmS qSmE q ∧ FrOk qSmE x := ⟨small_of_wtS p gExpr (fun _ => rfl) (by omega), small_of_wtS q gExpr (fun _ => rfl) (by omega), small_of_wtE x gExpr (fun _ => rfl) (by omega)⟩
    clear hz hp_ hw1 hw2 hw3
    have CT := Lib.hid (fun w (h : Tri w 0 w.heap.size X x P p Q q) => toStmt_of zk zs zt x p q X cx P cp Q cq w h.1 h.2.1 h.2.2 (fun w' h' => toExprS_any x.size (by omega) x X cx w' (Nat.le_refl _) h') (fun w' h' => toStmtS_any p.size (by omega) p P cp w' (Nat.le_refl _) h') (fun w' h' => toStmtS_any q.size (by omega) q Q cq w' (Nat.le_refl _) h'))
    have CE := Lib.hid (fun X cx P cp Q cq X' cx' P' cp' Q' cq' w (h : Tri w 0 w.heap.size X x P p Q q) (h' : Tri w 0 w.heap.size X' x P' p Q' q) => eqStmt_of zk zs zt x p q X P Q X' P' Q' cx cp cq cx' cp' cq' w h.1 h.2.1 h.2.2 h'.1 h'.2.1 h'.2.2 (fun w' h h' => eqExprS_any x.size (by omega) x (Nat.le_refl _) X X' cx cx' w' h h') (fun w' h h' => eqStmtS_any p.size (by omega) p (Nat.le_refl _) P P' cp cp' w' h h') (fun w' h h' => eqStmtS_any q.size (by omega) q (Nat.le_refl _) Q Q' cq cq' w' h h'))
    have cS := fun X cx P cp Q cq w (T_ : Tab w) (h : Tri w 0 w.heap.size X x P p Q q) => sStmtText zk zs zt x p q X cx P cp Q cq w hks hwt hsm T_ h
    have cI := fun X cx P cp Q cq w (T_ : Tab w) (h : Tri w 0 w.heap.size X x P p Q q) => iStmtText_any (x.size + p.size + q.size) hks zk zs zt x p q X cx P cp Q cq (Nat.le_refl _) hwt hsm w T_ h
    generalize stO (zk, zs, zt) x p q = Y at cS cI
    have CS := Lib.hid cS
    have CI := Lib.hid cI
    clear cS cI
    go_enter Tryz.func4, Tryz.ntmps4
    go_wp2_with fail
    refine (CZ.out _ ((hS.below L0 (Nat.le_refl _)).more (Nat.le_refl _) L0.size)).mono ?_; rintro e w1 ⟨rfl, b1⟩
    have s1 := b1.size
    replace T_ := T_.keep b1
    have L1 := bl_trans L0 b1
    replace B := B.keep b1
    have pB := B.cell
    go_wp2_with fail
    clear pB
    refine (CT.out _ ((hS.below L1 (Nat.le_refl _)).more (Nat.le_refl _) L1.size)).mono ?_; rintro e w2 ⟨⟨Xx, cxx, Px, cpx, Qx, cqx, rfl, X_x⟩, b2⟩
    have s2 := b2.size
    replace T_ := T_.keep b2
    have L2 := bl_trans L1 b2
    replace B := B.keep b2
    change Tri _ _ _ _ _ _ _ _ _ at X_x
    go_wp2_with fail
    refine (CS.out _ _ _ _ _ _ _ T_ (X_x.more (Nat.zero_le _) (by omega))).mono ?_; rintro e w3 ⟨rfl, b3⟩
    have s3 := b3.size
    replace T_ := T_.keep b3
    have L3 := bl_trans L2 b3
    replace B := B.keep b3
    replace X_x := X_x.below b3 (by omega)
    have pB := B.cell
    go_wp2_with fail
    clear pB
    refine (CT.out _ ((hS.below L3 (Nat.le_refl _)).more (Nat.le_refl _) L3.size)).mono ?_; rintro e w4 ⟨⟨Xp, cxp, Pp, cpp, Qp, cqp, rfl, X_p⟩, b4⟩
    have s4 := b4.size
    replace T_ := T_.keep b4
    have L4 := bl_trans L3 b4
    replace B := B.keep b4
    change Tri _ _ _ _ _ _ _ _ _ at X_p
    go_wp2_with fail
    have BP := Blk.new w4 40 #[.int .i64 zk, .string zs, .string zt, .slice Xp x.len cxp, .slice Pp p.len cpp, .slice Qp q.len cqp]
    have b5 := bl_alloc (Below.refl w4.heap.size w4) (.cells #[.int .i64 zk, .string zs, .string zt, .slice Xp x.len cxp, .slice Pp p.len cpp, .slice Qp q.len cqp] 40)
    have hBP : w4.heap.size < (w4.alloc (.cells #[.int .i64 zk, .string zs, .string zt, .slice Xp x.len cxp, .slice Pp p.len cpp, .slice Qp q.len cqp] 40)).heap.size := by rw [alloc_size]; exact Nat.lt_succ_self _
    generalize w4.alloc (.cells #[.int .i64 zk, .string zs, .string zt, .slice Xp x.len cxp, .slice Pp p.len cpp, .slice Qp q.len cqp] 40) = w5 at BP b5 hBP ⊢
    have s5 := b5.size
    replace T_ := T_.keep b5
    have L5 := bl_trans L4 b5
    replace B := B.keep b5
    replace X_p := X_p.below b5 (by omega)
    refine (CI.out _ _ _ _ _ _ _ T_ (X_p.more (Nat.zero_le _) (by omega))).mono ?_; rintro e w6 ⟨rfl, b6⟩
    have s6 := b6.size
    replace T_ := T_.keep b6
    have L6 := bl_trans L5 b6
    replace B := B.keep b6
    replace BP := BP.keep b6
    replace X_p := X_p.below b6 (by omega)
    go_wp2_with fail
    have hww : w.heap.size ≤ w6.heap.size := L6.size
    refine wp_region_held_drew (S := (fun x_ => Blk x_ w4.heap.size 40 #[.int .i64 zk, .string zs, .string zt, .slice Xp x.len cxp, .slice Pp p.len cpp, .slice Qp q.len cqp] ∧ Blk x_ w.heap.size 35 #[.int .i64 zk, .string zs, .string zt, .slice X x.len cx, .slice P p.len cp, .slice Q q.len cq] ∧ Tri x_ 0 w.heap.size X x P p Q q ∧ Tri x_ 0 w6.heap.size Xp x Pp p Qp q ∧ w6.heap.size ≤ x_.heap.size)) (by kernel_rfl) ?_ (fun hHeld => ?_)
    · exact ⟨BP.drew, B.drew, (hS.below L6 (Nat.le_refl _)).keep (fun _ _ _ => rfl) (Nat.le_refl _) (Nat.le_refl _), X_p.keep (fun _ _ _ => rfl) (Nat.zero_le _) (by omega), Nat.le_refl _⟩
    refine wpAnyH_take (i := 0) (oi := ⟨some 22, _, _, _, _, _⟩) (v := ?_) rfl (by kernel_rfl) (by kernel_rfl) (by kernel_rfl) (fun _ _ _ h => h) (Or.inl ⟨by rfl, ?_⟩) (by assumption) ?_
    case refine_2 => (intro w hSw; have p := hSw.1.cell; go_simp; first | done | with_reducible rfl)
    simp only [Act.put, qA, qB, qC]
    refine wpAnyH_take (i := 1) (oi := ⟨some 23, _, _, _, _, _⟩) (v := ?_) rfl (by kernel_rfl) (by kernel_rfl) (by kernel_rfl) (fun _ _ _ h => h) (Or.inl ⟨by rfl, ?_⟩) (by assumption) ?_
    case refine_2 => (intro w hSw; have p := hSw.2.1.cell; go_simp; first | done | with_reducible rfl)
    simp only [Act.put, qA, qB, qC]
    refine wpAnyH_ready (rs := [2]) (by kernel_rfl) (by simp) ?_
    refine AllReadyH.cons (o := ⟨some 24, _, _, _, _, _⟩) rfl (fun K hK => ?_) AllReadyH.nil
    go_simp
    refine (CT.out _ (hHeld.2.2.1.more (Nat.le_refl _) (Nat.le_trans hww hHeld.2.2.2.2))).mono ?_; rintro e u1 ⟨⟨Xe, cxe, Pe, cpe, Qe, cqe, rfl, X_e⟩, bu1⟩; change Tri _ _ _ _ _ _ _ _ _ at X_e
    go_wp2_with fail
    refine hK.out _ _ (⟨hHeld.1.keep bu1, hHeld.2.1.keep bu1, hHeld.2.2.1.below bu1 (Nat.le_trans hww hHeld.2.2.2.2), hHeld.2.2.2.1.below bu1 hHeld.2.2.2.2, Nat.le_trans hHeld.2.2.2.2 bu1.size⟩) (fun hHeld => ?_)
    clear hK K
    try simp only [Act.put, qA, qB, qC]
    refine wpAnyH_ready (rs := [3]) (by kernel_rfl) (by simp) ?_
    refine AllReadyH.cons (o := ⟨some 25, _, _, _, _, _⟩) rfl (fun K hK => ?_) AllReadyH.nil
    go_simp
    refine (CE.out _ _ _ _ _ _ _ _ _ _ _ _ _ (hHeld.2.2.2.1.more (Nat.le_refl _) hHeld.2.2.2.2) (X_e.more (Nat.zero_le _) (Nat.le_refl _))).mono ?_; rintro e w7 ⟨rfl, bu2⟩
    go_wp2_with fail
    refine hK.out _ _ (⟨hHeld.1.keep bu2, hHeld.2.1.keep bu2, hHeld.2.2.1.below bu2 (Nat.le_trans hww hHeld.2.2.2.2), hHeld.2.2.2.1.below bu2 hHeld.2.2.2.2, Nat.le_trans hHeld.2.2.2.2 bu2.size⟩) (fun hHeld => ?_)
    clear hK K
    try simp only [Act.put, qA, qB, qC]
    refine wpAnyH_take (i := 4) (oi := ⟨some 26, _, _, _, _, _⟩) (v := ?_) rfl (by kernel_rfl) (by kernel_rfl) (by kernel_rfl) (fun _ _ _ h => h) (Or.inl ⟨by rfl, ?_⟩) (by assumption) ?_
    case refine_2 => (intro w hSw; skip; go_simp; first | done | with_reducible rfl)
    simp only [Act.put, qA, qB, qC]
    refine wpAnyH_done (by kernel_rfl) ?_ _
    have b7 := bl_trans (bl_trans (Below.refl w6.heap.size w6).drew bu1) bu2
    clear hww hHeld
    have s7 := b7.size
    replace T_ := T_.keep b7
    have L7 := bl_trans L6 b7
    replace B := B.keep b7
    replace BP := BP.keep b7
    replace X_p := X_p.below b7 (by omega)
    go_wp2_with fail
    go_ret
    exact ⟨rfl, L7⟩

set_option maxRecDepth 100000 in
theorem FnExactStmtText_args {H : Type} {enc : TypeId × Value → H} (W : World) (base : Nat) (args : Array Value) (ds : List (DataW H)) (p : List MemPlace)
    (hval : ∀ (j : Nat) t v, Tryz.f4.params[j]? = some t → args[j]? = some v → Value.okWide Tryz.checked.prog W .any base t v)
    (hA : DataW.TrodAll enc Tryz.checked.prog W 0 (fun _ => true) true Tryz.f4.params.toList args.toList ds p)
    (hL : laidMetH Tryz.checked.prog laidL W) :
    Calls Tryz.checked.prog 4 args W fun e W' => e = .returned (.bool true) ∧ Below W.heap.size W W' := by
  rw [Tryz.params4] at hA hval
  obtain ⟨v0, d0, rfl, rfl, h0⟩ := trodAll_one hA
  obtain ⟨zk, zs, zt, X, cx, P, cp, Q, cq, x, p, q, rfl, ht, hS, hl, hx, hp, hq⟩ := open_trStmt W v0 d0 p (hval 0 35 v0 rfl rfl) h0
  exact FnExactStmtText_walk zk zs zt x p q X cx P cp Q cq W (tab_of_laid hL) ht hS hl hx hp hq

set_option maxRecDepth 100000 in
theorem FnExactStmtText_holds : Rows.FnExactStmtTextSaid :=
  OpenClaim.holds_of_wide 4 Tryz.f4 rfl rfl rfl rfl rfl rfl rfl ⟨rfl, rfl, rfl, rfl, rfl⟩ rfl rfl rfl rfl rfl (by kernel_rfl) Tryz.func4 (by kernel_rfl)
    (of_decide_eq_true (by kernel_rfl)) (by unfold Func.isWrapper; rw [if_neg (of_decide_eq_false (by kernel_rfl))]; exact ⟨rfl, rfl⟩)
    (fun os started H enc _ => law_lift_laid laidL 4 Tryz.f4 Rows.fnExactStmtTextSpec 4 own laidOut started (by kernel_rfl) Tryz.func4 (by kernel_rfl) rfl (by kernel_rfl) Tryz.underlying4
      (fun ds h => by
        have hl : ds.length = 1 := h.trans (by kernel_rfl)
        obtain ⟨d, rfl⟩ := len1 hl
        rfl)
      (ChangeSpec.witness_shaped (enc := enc) (C := Tryz.checked) (os := os) (X := fun w _ => laidMetH Tryz.checked.prog laidL w) false (World.doorLaid Tryz.prog 600 os) #[.agg #[.int .i64 0, .string ⟨#[]⟩, .string ⟨#[]⟩, .slice none 0 0, .slice none 0 0, .slice none 0 0]] 8 rfl (World.shaped_of_RefB (by kernel_rfl) (by kernel_rfl)) (by kernel_rfl) (by kernel_rfl) (by kernel_rfl) (door_met os _))
      FnExactStmtText_args)
theorem FnExactStmtText_card : Rows.FnExactStmtTextCardSaid :=
  Claim7.holds_tied_plain_at .later [] [.data, .data, .data] true Rows.fnExactStmtTextCard.stood.harness false
    FnExactStmtText_holds (fun _ h => by cases h) (by kernel_rfl) (fun _ h => by cases h) fnExactStmtText_row_tie rfl ⟨rfl, rfl⟩ (by kernel_rfl) rfl
    (fun f fn hf hfn => by
      obtain rfl : f = 4 := Option.some.inj ((show Tryz.prog.funcNamed Rows.fnExactStmtTextRow.func = some 4 by kernel_rfl).symm.trans hf) |>.symm
      obtain rfl : fn = Tryz.f4 := (Option.some.inj (Tryz.func4.symm.trans hfn)).symm
      exact ⟨by kernel_rfl, fun j t ht => by
        have hm : t ∈ Tryz.f4.params.toList := by simpa using Array.mem_of_getElem? ht
        have hall : (Tryz.f4.params.toList.all fun u => !Tryz.prog.wantsStandIn u) = true := by kernel_rfl
        exact (show Tryz.prog.wantsStandIn t = false by simpa using List.all_eq_true.1 hall t hm)⟩)
    (by kernel_rfl)
#print axioms FnExactStmtText_card

end Go.Proofs.YtemlnpncljomgaaGreatDoor
