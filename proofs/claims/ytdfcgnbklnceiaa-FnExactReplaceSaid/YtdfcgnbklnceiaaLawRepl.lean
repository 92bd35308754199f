/- FnExactReplace: the program's returns what the reference's returns, for all arguments, and changes no argument. No condition. -/
import Derived.Test.YtdfcgnbklnceiaaLift
import Derived.Test.YtdfcgnbklnceiaaRexTo
import Derived.Test.YtdfcgnbklnceiaaRexEq
import Derived.Test.YtdfcgnbklnceiaaRexOp
import Derived.Deep.RegionHeld3
import Derived.Test.YtdfcgnbklnceiaaRepl
namespace Go.Proofs.Ytdfcgnbklnceiaa
open Go.ChangeShapes Go.WideShapes Go.ChangeAt Go.RowKit
open Go.ChangeMaps (open_string shut_string)

theorem small_of_wt : ∀ (fr : Fr (Int × ByteArray)), wt gRex fr ≤ 1048576 → FrOk qSmall fr
  | .nil, _ => trivial
  | .cons a k r, h => by
    simp only [wt, gRex] at h
    have := len_wt gRex k
    exact ⟨by show a.2.size ≤ _; omega, by omega, small_of_wt k (by omega), small_of_wt r (by omega)⟩

set_option maxHeartbeats 4000000 in
theorem FnExactReplace_walk (zk : Int) (zs : ByteArray) (kids : Fr (Int × ByteArray)) (A : Option Addr) (c : Nat) (s t : ByteArray) (all : Bool) (w : World) (hS : Sl rexC w 0 w.heap.size A kids) (hl : kids.len ≤ 9223372036854775807) (hq : FrOk qRex kids) (ht : zs.size ≤ 9223372036854775807) (hss : s.size ≤ 9223372036854775807) (htt0 : t.size ≤ 9223372036854775807) :
    Calls Try.prog 3 #[.agg #[.int .i64 zk, .string zs, .slice A kids.len c], .string s, .string t, .bool all] w fun e w' => e = .returned (.bool true) ∧ Below w.heap.size w w' := by
  have B := Blk.new w 24 #[.int .i64 zk, .string zs, .slice A kids.len c]
  have L0 := bl_alloc (Below.refl w.heap.size w) (.cells #[.int .i64 zk, .string zs, .slice A kids.len c] 24)
  by_cases hs : s.size ≤ 1048576
  case neg =>
    have hgt : (1048576 : Int) < (s.size : Int) := by omega
    go_enter Try.func3, Try.ntmps3
    go_wp2_with fail
    go_ret
    exact ⟨rfl, L0⟩
  have hng : ¬ (1048576 : Int) < (s.size : Int) := by omega
  by_cases hs2 : t.size ≤ 1048576
  case neg =>
    have hgt : (1048576 : Int) < (t.size : Int) := by omega
    go_enter Try.func3, Try.ntmps3
    go_wp2_with fail
    go_ret
    exact ⟨rfl, L0⟩
  have hng2 : ¬ (1048576 : Int) < (t.size : Int) := by omega
  have cZ := fun w h => szRex_of zk zs kids A c 1048576 w ht (by omega) (by omega) h (fun w' left h0 h1 h => szRexS_any kids.size kids (Nat.le_refl _) hl hq A c left w' h0 h1 h)
  obtain ⟨z, hz⟩ : ∃ z, left_ 1048576 (zs.size + wt gRex kids) = z := ⟨_, rfl⟩
  rw [hz] at cZ
  have CZ := Lib.hid cZ
  clear cZ
  by_cases hc : z < 0
  case pos =>
    clear hz
    go_enter Try.func3, Try.ntmps3
    go_wp2_with fail
    refine (CZ.out _ ((hS.below L0 (Nat.le_refl _)).more (Nat.le_refl _) L0.size)).mono ?_; rintro e w1 ⟨rfl, b1⟩
    go_wp2_with fail
    go_ret
    exact ⟨rfl, bl_trans L0 b1⟩
  have hp := left_pos (by rw [hz]; exact hc)
  have hw := size_wt gRex kids
  have hks : kids.size ≤ 1048576 := by omega
  have htt : zs.size ≤ 1048576 := by omega
  have hwt : zs.size + wt gRex kids ≤ 1048576 := by omega
  have hsm : FrOk qSmall kids := small_of_wt kids (by omega)
  clear hz hp hw
  have CT := Lib.hid fun w h => toRex_of zk zs kids A c w h (fun w' h' => toRexS_any kids.size hks kids A c w' (Nat.le_refl _) h')
  have CE := Lib.hid fun A A' c c' w h h' => eqRex_of zk zs kids A A' c c' w h h' (fun w' h h' => eqRexS_any kids.size hks kids (Nat.le_refl _) A A' c c' w' h h')
  have cS := fun A c w h => sRepl zk zs kids A c s t all w hks htt hsm hwt hs hs2 h
  have cI := fun A c w h => iRepl zk zs kids A c s t all w hks htt hsm hwt hs hs2 h
  generalize replO zk zs kids s t all = Y at cS cI
  obtain ⟨y1, y2⟩ := Y
  simp only at cS cI
  have CS := Lib.hid cS
  have CI := Lib.hid cI
  clear cS cI
  go_enter Try.func3, Try.ntmps3
  go_wp2_with fail
  refine (CZ.out _ ((hS.below L0 (Nat.le_refl _)).more (Nat.le_refl _) L0.size)).mono ?_; rintro e w1 ⟨rfl, b1⟩
  have s1 := b1.size
  have L1 := bl_trans L0 b1
  replace B := B.keep b1
  have pB := B.cell
  go_wp2_with fail
  clear pB
  refine (CT.out _ ((hS.below L1 (Nat.le_refl _)).more (Nat.le_refl _) L1.size)).mono ?_; rintro e w2 ⟨⟨Ax, cx, rfl, Xx⟩, b2⟩
  have s2 := b2.size
  have L2 := bl_trans L1 b2
  replace B := B.keep b2
  go_wp2_with fail
  refine (CS.out _ _ _ (Xx.more (Nat.zero_le _) (by omega))).mono ?_; rintro e w3 ⟨rfl, b3⟩
  have s3 := b3.size
  have L3 := bl_trans L2 b3
  replace B := B.keep b3
  replace Xx := Xx.below b3 (by omega)
  have pB := B.cell
  go_wp2_with fail
  clear pB
  refine (CT.out _ ((hS.below L3 (Nat.le_refl _)).more (Nat.le_refl _) L3.size)).mono ?_; rintro e w4 ⟨⟨Ap, cp, rfl, Xp⟩, b4⟩
  have s4 := b4.size
  have L4 := bl_trans L3 b4
  replace B := B.keep b4
  go_wp2_with fail
  have P := Blk.new w4 30 #[.int .i64 zk, .string zs, .slice Ap kids.len cp]
  have b5 := bl_alloc (Below.refl w4.heap.size w4) (.cells #[.int .i64 zk, .string zs, .slice Ap kids.len cp] 30)
  have hP : w4.heap.size < (w4.alloc (.cells #[.int .i64 zk, .string zs, .slice Ap kids.len cp] 30)).heap.size := by rw [alloc_size]; exact Nat.lt_succ_self _
  generalize w4.alloc (.cells #[.int .i64 zk, .string zs, .slice Ap kids.len cp] 30) = w5 at P b5 hP ⊢
  have s5 := b5.size
  have L5 := bl_trans L4 b5
  replace B := B.keep b5
  replace Xp := Xp.below b5 (by omega)
  refine (CI.out _ _ _ (Xp.more (Nat.zero_le _) (by omega))).mono ?_; rintro e w6 ⟨rfl, b6⟩
  have s6 := b6.size
  have L6 := bl_trans L5 b6
  replace B := B.keep b6
  replace P := P.keep b6
  replace Xp := Xp.below b6 (by omega)
  go_wp2_with fail
  have hww : w.heap.size ≤ w6.heap.size := L6.size
  refine wp_region_held_drew (S := (fun x => Blk x w4.heap.size 30 #[.int .i64 zk, .string zs, .slice Ap kids.len cp] ∧ Blk x w.heap.size 24 #[.int .i64 zk, .string zs, .slice A kids.len c] ∧ Sl rexC x 0 w.heap.size A kids ∧ Sl rexC x 0 w6.heap.size Ap kids ∧ w6.heap.size ≤ x.heap.size)) (by kernel_rfl) ?_ (fun hHeld => ?_)
  · exact ⟨P.drew, B.drew, (hS.below L6 (Nat.le_refl _)).keep (fun _ _ _ => rfl) (Nat.le_refl _) (Nat.le_refl _), Xp.keep (fun _ _ _ => rfl) (Nat.zero_le _) (by omega), Nat.le_refl _⟩
  refine wpAnyH_take (i := 0) (oi := ⟨some 53, _, _, _, _, _⟩) (v := ?_) rfl (by kernel_rfl) (by kernel_rfl) (by kernel_rfl) (fun _ _ _ h => h) (Or.inl ⟨by rfl, ?_⟩) (by assumption) ?_
  case refine_2 => (intro w hSw; have p := hSw.1.cell; go_simp; first | done | with_reducible rfl)
  simp only [Act.put, List.setIfInBounds_toArray, List.set_cons_zero, List.set_cons_succ]
  refine wpAnyH_take (i := 1) (oi := ⟨some 54, _, _, _, _, _⟩) (v := ?_) rfl (by kernel_rfl) (by kernel_rfl) (by kernel_rfl) (fun _ _ _ h => h) (Or.inl ⟨by rfl, ?_⟩) (by assumption) ?_
  case refine_2 => (intro w hSw; have p := hSw.2.1.cell; go_simp; first | done | with_reducible rfl)
  simp only [Act.put, List.setIfInBounds_toArray, List.set_cons_zero, List.set_cons_succ]
  refine wpAnyH_ready (rs := [2]) (by kernel_rfl) (by simp) ?_
  refine AllReadyH.cons (o := ⟨some 55, _, _, _, _, _⟩) rfl (fun K hK => ?_) AllReadyH.nil
  go_simp
  refine (CT.out _ (hHeld.2.2.1.more (Nat.le_refl _) (Nat.le_trans hww hHeld.2.2.2.2))).mono ?_; rintro e u1 ⟨⟨Ae, ce, rfl, Xe⟩, bu1⟩
  go_wp2_with fail
  refine hK.out _ _ (⟨hHeld.1.keep bu1, hHeld.2.1.keep bu1, hHeld.2.2.1.below bu1 (Nat.le_trans hww hHeld.2.2.2.2), hHeld.2.2.2.1.below bu1 hHeld.2.2.2.2, Nat.le_trans hHeld.2.2.2.2 bu1.size⟩) (fun hHeld => ?_)
  clear hK K
  try simp only [Act.put, List.setIfInBounds_toArray, List.set_cons_zero, List.set_cons_succ]
  refine wpAnyH_ready (rs := [3]) (by kernel_rfl) (by simp) ?_
  refine AllReadyH.cons (o := ⟨some 56, _, _, _, _, _⟩) rfl (fun K hK => ?_) AllReadyH.nil
  go_simp
  refine (CE.out _ _ _ _ _ (hHeld.2.2.2.1.more (Nat.le_refl _) hHeld.2.2.2.2) (Xe.more (Nat.zero_le _) (Nat.le_refl _))).mono ?_; rintro e w7 ⟨rfl, bu2⟩
  go_wp2_with fail
  refine hK.out _ _ (⟨hHeld.1.keep bu2, hHeld.2.1.keep bu2, hHeld.2.2.1.below bu2 (Nat.le_trans hww hHeld.2.2.2.2), hHeld.2.2.2.1.below bu2 hHeld.2.2.2.2, Nat.le_trans hHeld.2.2.2.2 bu2.size⟩) (fun hHeld => ?_)
  clear hK K
  try simp only [Act.put, List.setIfInBounds_toArray, List.set_cons_zero, List.set_cons_succ]
  refine wpAnyH_take (i := 4) (oi := ⟨some 57, _, _, _, _, _⟩) (v := ?_) rfl (by kernel_rfl) (by kernel_rfl) (by kernel_rfl) (fun _ _ _ h => h) (Or.inl ⟨by rfl, ?_⟩) (by assumption) ?_
  case refine_2 => (intro w hSw; skip; go_simp; first | done | with_reducible rfl)
  simp only [Act.put, List.setIfInBounds_toArray, List.set_cons_zero, List.set_cons_succ]
  refine wpAnyH_done (by kernel_rfl) ?_ _
  have b7 := bl_trans (bl_trans (Below.refl w6.heap.size w6).drew bu1) bu2
  clear hww hHeld
  have s7 := b7.size
  have L7 := bl_trans L6 b7
  replace B := B.keep b7
  replace P := P.keep b7
  replace Xp := Xp.below b7 (by omega)
  go_wp2_with fail
  go_ret
  exact ⟨rfl, L7⟩

set_option maxRecDepth 100000 in
theorem FnExactReplace_args {H : Type} {enc : TypeId × Value → H} (W : World) (base : Nat) (args : Array Value) (ds : List (DataW H)) (p : List MemPlace)
    (hval : ∀ (j : Nat) t v, Try.f3.params[j]? = some t → args[j]? = some v → Value.okWide Try.checked.prog W .any base t v)
    (hA : DataW.TrodAll enc Try.checked.prog W 0 (fun _ => true) true Try.f3.params.toList args.toList ds p) :
    Calls Try.checked.prog 3 args W fun e W' => e = .returned (.bool true) ∧ Below W.heap.size W W' := by
  rw [Try.params3] at hA hval
  obtain ⟨v0, v1, v2, v3, d0, d1, d2, d3, p0, p1, p2, p3, rfl, rfl, rfl, h0, h1, h2, h3⟩ := trodAll_four hA
  obtain ⟨zk, zs, A, c, kids, rfl, hS, hl, hq, ht⟩ := open_trRex W v0 d0 p0 (hval 0 24 v0 rfl rfl) h0
  obtain ⟨s, rfl, rfl, rfl, hs⟩ := open_string Try.underlying9 (hval 1 9 v1 rfl rfl) h1
  obtain ⟨t, rfl, rfl, rfl, ht2⟩ := open_string Try.underlying9 (hval 2 9 v2 rfl rfl) h2
  obtain ⟨all, rfl, rfl, rfl⟩ := open_bool Try.underlying4 (hval 3 4 v3 rfl rfl) h3
  exact FnExactReplace_walk zk zs kids A c s t all W hS hl hq ht hs ht2

set_option maxRecDepth 100000 in
theorem FnExactReplace_holds : Rows.FnExactReplaceSaid :=
  OpenClaim.holds_of_wide 3 Try.f3 rfl rfl rfl rfl rfl rfl rfl ⟨rfl, rfl, rfl, rfl, rfl⟩ rfl rfl rfl rfl rfl (by kernel_rfl) Try.func3 (by kernel_rfl)
    (of_decide_eq_true (by kernel_rfl)) (by unfold Func.isWrapper; rw [if_neg (of_decide_eq_false (by kernel_rfl))]; exact ⟨rfl, rfl⟩)
    (fun os started H enc _ => law_lift 3 Try.f3 Rows.fnExactReplaceSpec 4 own laidOut started (by kernel_rfl) Try.func3 (by kernel_rfl) rfl (by kernel_rfl) Try.underlying4
      (fun ds h => by
        have hl : ds.length = 4 := h.trans (by kernel_rfl)
        obtain ⟨a, b, c, d, rfl⟩ := len4 hl
        rfl)
      (ChangeSpec.witness6 (enc := enc) (C := Try.checked) false ⟨#[], #[.agg #[.int .i64 0, .string ⟨#[]⟩, .slice none 0 0], .string ⟨#[]⟩, .string ⟨#[]⟩, .bool false], []⟩ 8 (by kernel_rfl) (by kernel_rfl) (by kernel_rfl) (by kernel_rfl))
      FnExactReplace_args)
#print axioms FnExactReplace_holds

end Go.Proofs.Ytdfcgnbklnceiaa
