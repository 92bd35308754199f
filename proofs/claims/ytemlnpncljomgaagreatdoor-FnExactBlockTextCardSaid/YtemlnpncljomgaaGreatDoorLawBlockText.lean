import Derived.Test.YtemlnpncljomgaaGreatDoorQ0
import Derived.Test.YtemlnpncljomgaaGreatDoorQ1
import Derived.Test.YtemlnpncljomgaaGreatDoorStmtTi
import Derived.Test.YtemlnpncljomgaaGreatDoorStmtTb
import Derived.Lib.SmallJoins
namespace Go.Proofs.YtemlnpncljomgaaGreatDoor
open Go.ChangeShapes Go.WideShapes Go.ChangeAt Go.RowKit Go.Joins
open Go.ChangeMaps (open_string shut_string)

set_option maxRecDepth 100000 in
theorem open_stS {H : Type} {enc : TypeId × Value → H} (W : World) {r : Reach} {b0 : Nat} (v : Value) (d : DataW H) (ps : List MemPlace) (hval : Value.okWide Tryz.checked.prog W r b0 33 v) (h : DataW.Trod enc Tryz.checked.prog W 0 (fun _ => true) true 33 v d ps) :
    ∃ (A : Option Addr) (c : Nat) (s : St), v = .slice A s.len c ∧ SlS W 0 W.heap.size A s ∧ s.len ≤ 9223372036854775807 ∧ StOk qStmt qExpr s := by
  obtain ⟨a, len, cap, rfl⟩ := okWide_slice Tryz.underlying33 hval
  obtain ⟨fuel, hf⟩ := h
  exact open_frStmt W fuel fuel (Nat.le_refl _) _ _ hf

set_option maxRecDepth 20000 in
set_option maxHeartbeats 4000000 in
theorem FnExactBlockText_walk (s : St) (A : Option Addr) (c : Nat) (w : World) (T_ : Tab w) (hS : SlS w 0 w.heap.size A s) (hl : s.len ≤ 9223372036854775807) (hq : StOk qStmt qExpr s) :
    Calls Tryz.prog 5 #[.slice A s.len c] w fun e w' => e = .returned (.bool true) ∧ Below w.heap.size w w' := by
  have cZ := fun w h => szStmtS_any s.size s (Nat.le_refl _) hl hq A c 1048576 w (by omega) (by omega) h
  obtain ⟨z, hz⟩ : ∃ z, left_ 1048576 (wtS gExpr s) = z := ⟨_, rfl⟩
  rw [hz] at cZ
  have CZ := Lib.hid cZ
  clear cZ
  by_cases hc : z < 0
  · clear hz
    go_enter Tryz.func5, Tryz.ntmps5
    go_wp2_with fail
    refine (CZ.out _ hS).mono ?_; rintro e w1 ⟨rfl, b1⟩
    go_wp2_with fail
    go_ret
    exact ⟨rfl, b1⟩
  · have hp_ := left_pos (by rw [hz]; exact hc)
    have hw := size_wtS gExpr s
    have hks : s.size ≤ 1048576 := by omega
    have hwt : wtS gExpr s ≤ 1048576 := by omega
    have hsm : StOk qSmS qSmE s := small_of_wtS s gExpr (fun _ => rfl) (by omega)
    clear hz hp_ hw
    have CT := Lib.hid fun w h => toStmtS_any s.size hks s A c w (Nat.le_refl _) h
    have CE := Lib.hid fun A A' c c' w h h' => eqStmtS_any s.size hks s (Nat.le_refl _) A A' c c' w h h'
    have cS := fun A c w (T_ : Tab w) h => sBlockT s A c w hks hwt hsm T_ h
    have cI := fun A c w (T_ : Tab w) h => iBlock s.size s A c w (Nat.le_refl _) hks hwt hsm T_ h (fun zk zs zt x p q X cx P cp Q cq h hw hq w T_ hX => iStmtText_any (x.size + p.size + q.size) (by omega) zk zs zt x p q X cx P cp Q cq (Nat.le_refl _) hw hq w T_ hX)
    generalize blkT (rowO s) = Y at cS cI
    have CS := Lib.hid cS
    have CI := Lib.hid cI
    clear cS cI
    go_enter Tryz.func5, Tryz.ntmps5
    go_wp2_with fail
    refine (CZ.out _ hS).mono ?_; rintro e w1 ⟨rfl, b1⟩
    have L1 := b1
    go_wp2_with fail
    refine (CT.out _ ((hS.below L1 (Nat.le_refl _)).more (Nat.le_refl _) L1.size)).mono ?_; rintro e w2 ⟨⟨A2, c2, rfl, S2⟩, b2⟩
    have L2 := bl_trans L1 b2
    go_wp2_with fail
    refine (CS.out _ _ _ (T_.keep L2) (S2.more (Nat.zero_le _) (Nat.le_refl _))).mono ?_; rintro e w3 ⟨rfl, b3⟩
    have L3 := bl_trans L2 b3
    go_wp2_with fail
    refine (CT.out _ ((hS.below L3 (Nat.le_refl _)).more (Nat.le_refl _) L3.size)).mono ?_; rintro e w4 ⟨⟨A4, c4, rfl, S4⟩, b4⟩
    have L4 := bl_trans L3 b4
    go_wp2_with fail
    refine (CI.out _ _ _ (T_.keep L4) (S4.more (Nat.zero_le _) (Nat.le_refl _))).mono ?_; rintro e w5 ⟨rfl, b5⟩
    have L5 := bl_trans L4 b5
    have S5 := (S4.below b5 (Nat.le_refl _))
    have s5 := b5.size
    go_wp2_with fail
    refine (CT.out _ ((hS.below L5 (Nat.le_refl _)).more (Nat.le_refl _) L5.size)).mono ?_; rintro e w6 ⟨⟨A6, c6, rfl, S6⟩, b6⟩
    have L6 := bl_trans L5 b6
    have S5' := (S5.below b6 (by omega))
    have s6 := b6.size
    go_wp2_with fail
    refine (CE.out _ _ _ _ _ (S5'.more (Nat.zero_le _) (by omega)) (S6.more (Nat.zero_le _) (Nat.le_refl _))).mono ?_; rintro e w7 ⟨rfl, b7⟩
    go_wp2_with fail
    go_ret
    exact ⟨rfl, bl_trans L6 b7⟩

set_option maxRecDepth 100000 in
theorem FnExactBlockText_args {H : Type} {enc : TypeId × Value → H} (W : World) (base : Nat) (args : Array Value) (ds : List (DataW H)) (p : List MemPlace)
    (hval : ∀ (j : Nat) t v, Tryz.f5.params[j]? = some t → args[j]? = some v → Value.okWide Tryz.checked.prog W .any base t v)
    (hA : DataW.TrodAll enc Tryz.checked.prog W 0 (fun _ => true) true Tryz.f5.params.toList args.toList ds p)
    (hL : laidMetH Tryz.checked.prog laidL W) :
    Calls Tryz.checked.prog 5 args W fun e W' => e = .returned (.bool true) ∧ Below W.heap.size W W' := by
  rw [Tryz.params5] at hA hval
  obtain ⟨v0, d0, rfl, rfl, h0⟩ := trodAll_one hA
  obtain ⟨A, c, s, rfl, hS, hl, hq⟩ := open_stS W v0 d0 p (hval 0 33 v0 rfl rfl) h0
  exact FnExactBlockText_walk s A c W (tab_of_laid hL) hS hl hq

set_option maxRecDepth 100000 in
theorem FnExactBlockText_holds : Rows.FnExactBlockTextSaid :=
  OpenClaim.holds_of_wide 5 Tryz.f5 rfl rfl rfl rfl rfl rfl rfl ⟨rfl, rfl, rfl, rfl, rfl⟩ rfl rfl rfl rfl rfl (by kernel_rfl) Tryz.func5 (by kernel_rfl)
    (of_decide_eq_true (by kernel_rfl)) (by unfold Func.isWrapper; rw [if_neg (of_decide_eq_false (by kernel_rfl))]; exact ⟨rfl, rfl⟩)
    (fun os started H enc _ => law_lift_laid laidL 5 Tryz.f5 Rows.fnExactBlockTextSpec 4 own laidOut started (by kernel_rfl) Tryz.func5 (by kernel_rfl) rfl (by kernel_rfl) Tryz.underlying4
      (fun ds h => by
        have hl : ds.length = 1 := h.trans (by kernel_rfl)
        obtain ⟨d, rfl⟩ := len1 hl
        rfl)
      (ChangeSpec.witness_shaped (enc := enc) (C := Tryz.checked) (os := os) (X := fun w _ => laidMetH Tryz.checked.prog laidL w) false (World.doorLaid Tryz.prog 600 os) #[.slice none 0 0] 8 rfl (World.shaped_of_RefB (by kernel_rfl) (by kernel_rfl)) (by kernel_rfl) (by kernel_rfl) (by kernel_rfl) (door_met os _))
      FnExactBlockText_args)
theorem FnExactBlockText_card : Rows.FnExactBlockTextCardSaid :=
  Claim7.holds_tied_plain_at .later [] [.data, .data, .data] true Rows.fnExactBlockTextCard.stood.harness false
    FnExactBlockText_holds (fun _ h => by cases h) (by kernel_rfl) (fun _ h => by cases h) fnExactBlockText_row_tie rfl ⟨rfl, rfl⟩ (by kernel_rfl) rfl
    (fun f fn hf hfn => by
      obtain rfl : f = 5 := Option.some.inj ((show Tryz.prog.funcNamed Rows.fnExactBlockTextRow.func = some 5 by kernel_rfl).symm.trans hf) |>.symm
      obtain rfl : fn = Tryz.f5 := (Option.some.inj (Tryz.func5.symm.trans hfn)).symm
      exact ⟨by kernel_rfl, fun j t ht => by
        have hm : t ∈ Tryz.f5.params.toList := by simpa using Array.mem_of_getElem? ht
        have hall : (Tryz.f5.params.toList.all fun u => !Tryz.prog.wantsStandIn u) = true := by kernel_rfl
        exact (show Tryz.prog.wantsStandIn t = false by simpa using List.all_eq_true.1 hall t hm)⟩)
    (by kernel_rfl)
#print axioms FnExactBlockText_card

end Go.Proofs.YtemlnpncljomgaaGreatDoor
