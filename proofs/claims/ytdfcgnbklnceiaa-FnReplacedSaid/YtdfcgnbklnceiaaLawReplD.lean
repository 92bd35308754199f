/- FnReplaced: a drawn text in which nothing matches stays as it is; with itself in the place of what matches once, too; once is no more often than all. No condition. -/
import Derived.Test.YtdfcgnbklnceiaaLift
import Derived.Test.YtdfcgnbklnceiaaOpenB
import Derived.Test.YtdfcgnbklnceiaaRexH
import Derived.Test.YtdfcgnbklnceiaaBig
import Derived.Test.YtdfcgnbklnceiaaReplP
import Derived.Deep.RegionHeld3
import Derived.BigGuard
namespace Go.Proofs.Ytdfcgnbklnceiaa
open Go.ChangeShapes Go.WideShapes Go.ChangeAt Go.RowKit
open Go.ChangeMaps (open_string shut_string)

theorem three_of : ∀ {fr : Fr (Int × ByteArray)}, FrOk qThree fr → FrOk qSmall fr
  | .nil, _ => trivial
  | .cons _ _ _, h => ⟨Nat.le_trans h.1 (by decide), h.2.1, three_of h.2.2.1, three_of h.2.2.2⟩
theorem wt_three : ∀ {fr : Fr (Int × ByteArray)}, FrOk qThree fr → wt gRex fr ≤ 4 * fr.size
  | .nil, _ => Nat.le_refl _
  | .cons a k r, h => by
    have h1 := wt_three h.2.2.1
    have h2 := wt_three h.2.2.2
    have h3 : a.2.size ≤ 3 := h.1
    simp only [wt, gRex, Fr.size]
    omega

set_option maxRecDepth 20000 in
set_option maxHeartbeats 8000000 in
theorem FnReplaced_walk (A0 : Option Addr) (c0 : Nat) (bs : List Int) (w : World) (hR : Reads w w.heap.size 1 A0 bs.length (u8s bs)) (hZ : Byt bs) :
    Calls Try.prog 7 #[.slice A0 bs.length c0] w fun e w' => e = .returned (.bool true) ∧ Below w.heap.size w w' := by
  by_cases hn : bs.length ≤ 1048576
  case neg =>
    have hgt : (1048576 : Int) < (bs.length : Int) := by omega
    go_enter Try.func7, Try.ntmps7
    go_wp2_with fail
    refine (big_any _ _ _ _).mono ?_; rintro e w1 ⟨rfl, rfl⟩
    go_wp2_with fail
    go_ret
    exact ⟨rfl, Below.refl _ _⟩
  have hng : ¬ (1048576 : Int) < (bs.length : Int) := by omega
  go_enter Try.func7, Try.ntmps7
  go_wp2_with fail
  refine (big_any _ _ _ _).mono ?_; rintro e w1 ⟨rfl, rfl⟩
  go_wp2_with fail
  refine (dRepl A0 bs.length c0 bs _ hR hZ hn).mono ?_; rintro e w1 ⟨⟨zk, zs, kids, A, c, s, t, al, rfl, ⟨hs, ht⟩, hS1, hsm⟩, b1⟩
  have hks : kids.size ≤ 1048576 := by have := hsm.2.2; omega
  have hzs : zs.size ≤ 1048576 := by have := hsm.1; omega
  have hq3 : FrOk qSmall kids := three_of hsm.2.1
  have hwt : zs.size + wt gRex kids ≤ 1048576 := by have h1 := wt_three hsm.2.1; have h2 := hsm.2.2; have h3 := hsm.1; omega
  have hss : s.size ≤ 1048576 := by omega
  have htt : t.size ≤ 1048576 := by omega
  have cI := fun (t : ByteArray) (al : Bool) (ht : t.size ≤ 1048576) w h => iRepl zk zs kids A c s t al w hks hzs hq3 hwt hss ht h
  have cS := fun w h => sRepl zk zs kids A c s t al w hks hzs hq3 hwt hss htt h
  have cL := fun w h => iLongest zk zs kids A c s w hks hzs hq3 hwt hss h
  have hSr := Lib.hid fun (x : World) (hP : Blk x w1.heap.size 30 #[.int .i64 zk, .string zs, .slice A kids.len c]) (hL : Below w1.heap.size w1 x) => (hS1.below hL (Nat.le_refl _)).more (lo' := 0) (hi' := x.heap.size) (Nat.zero_le _) (Nat.le_of_lt hP.lt)
  clear hS1 hks hzs hq3 hwt hss hsm
  go_wp2_with fail
  have P2 := Blk.new w1 30 #[.int .i64 zk, .string zs, .slice A kids.len c]
  have n2 := bl_alloc (Below.refl w1.heap.size w1) (.cells #[.int .i64 zk, .string zs, .slice A kids.len c] 30)
  generalize w1.alloc (.cells #[.int .i64 zk, .string zs, .slice A kids.len c] 30) = w2 at P2 n2 ⊢
  cases hX : longO zk zs kids s with
  | none =>
    rw [hX] at cL
    have c1 := cI t al (by omega)
    have c2 := cS
    rw [repl_none hX t al] at c1 c2
    simp only at c1 c2
    have C1 := Lib.hid c1
    have C2 := Lib.hid c2
    have CL := Lib.hid cL
    clear c1 c2 cL cI cS hX
    refine (C1.out _ (hSr.out _ P2 n2)).mono ?_; rintro e w3 ⟨rfl, b3⟩
    have P3 := P2.keep b3
    have n3 := bl_trans n2 b3
    clear P2 n2 b3
    have cP := P3.cell
    go_wp2_with fail
    clear cP
    refine (C2.out _ (hSr.out _ P3 n3)).mono ?_; rintro e w4 ⟨rfl, b4⟩
    have P4 := P3.keep b4
    have n4 := bl_trans n3 b4
    clear P3 n3 b4
    have cP := P4.cell
    go_wp2_with fail
    clear cP
    refine (CL.out _ (hSr.out _ P4 n4)).mono ?_; rintro e w5 ⟨rfl, b5⟩
    have P5 := P4.keep b5
    have n5 := bl_trans n4 b5
    clear P4 n4 b5
    have cP := P5.cell
    unfold longA
    go_wp2_with fail
    clear cP
    go_ret
    exact ⟨rfl, bl_trans b1 n5⟩
  | some x =>
    rw [hX] at cL
    obtain ⟨a, b⟩ := x
    obtain ⟨ha, hb, hre⟩ := repl_some hX
    have hes : (s.extract a b).size ≤ 200 := by rw [ByteArray.size_extract]; omega
    have c3 := cI t false (by omega)
    rw [(hre t (by omega)).1] at c3
    have c4 := cI (s.extract a b) false (by omega)
    rw [(hre _ hes).1, repl_self ha hb] at c4
    have c5 := cI t true (by omega)
    have hm := (hre t (by omega)).2
    have c1 := cI t al (by omega)
    have c2 := cS
    clear cI cS hre hes hX
    generalize replO zk zs kids s t true = Z at c5 hm
    generalize replO zk zs kids s t al = Y at c1 c2
    obtain ⟨z, m⟩ := Z
    obtain ⟨y, k⟩ := Y
    simp only at c1 c2 c3 c4 c5 hm
    have C1 := Lib.hid c1
    have C2 := Lib.hid c2
    have C3 := Lib.hid c3
    have C4 := Lib.hid c4
    have C5 := Lib.hid c5
    have CL := Lib.hid cL
    clear c1 c2 c3 c4 c5 cL
    refine (C1.out _ (hSr.out _ P2 n2)).mono ?_; rintro e w3 ⟨rfl, b3⟩
    have P3 := P2.keep b3
    have n3 := bl_trans n2 b3
    clear P2 n2 b3
    have cP := P3.cell
    go_wp2_with fail
    clear cP
    refine (C2.out _ (hSr.out _ P3 n3)).mono ?_; rintro e w4 ⟨rfl, b4⟩
    have P4 := P3.keep b4
    have n4 := bl_trans n3 b4
    clear P3 n3 b4
    have cP := P4.cell
    go_wp2_with fail
    clear cP
    refine (CL.out _ (hSr.out _ P4 n4)).mono ?_; rintro e w5 ⟨rfl, b5⟩
    have P5 := P4.keep b5
    have n5 := bl_trans n4 b5
    clear P4 n4 b5
    have cP := P5.cell
    unfold longA
    go_wp2_with fail
    clear cP
    refine (C3.out _ (hSr.out _ P5 n5)).mono ?_; rintro e w6 ⟨rfl, b6⟩
    have P6 := P5.keep b6
    have n6 := bl_trans n5 b6
    clear P5 n5 b6
    have cP := P6.cell
    have ha1 : (a : Int) ≤ (b : Int) := by omega
    have hb1 : (b : Int) ≤ (s.size : Int) := by omega
    have has : a ≤ s.size := by omega
    have has1 : (a : Int) ≤ (s.size : Int) := by omega
    clear cP
    go_upto_region 12 with fail
    refine wp_region_held_drew (S := (fun x => Blk x w1.heap.size 30 #[.int .i64 zk, .string zs, .slice A kids.len c] ∧ Below w1.heap.size w1 x)) (by kernel_rfl) ?_ (fun hHeld => ?_)
    · exact ⟨P6.drew, n6.drew⟩
    refine wpAnyH_take (i := 0) (oi := ⟨some 77, _, _, _, _, _⟩) (v := ?_) rfl (by kernel_rfl) (by kernel_rfl) (by kernel_rfl) (fun _ _ _ h => h) (Or.inl ⟨by rfl, ?_⟩) (by assumption) ?_
    case refine_2 => (intro w hSw; have p := hSw.1.cell; go_simp; first | done | with_reducible rfl)
    simp only [Act.put, List.setIfInBounds_toArray, List.set_cons_zero, List.set_cons_succ]
    refine wpAnyH_take (i := 1) (oi := ⟨some 78, _, _, _, _, _⟩) (v := ?_) rfl (by kernel_rfl) (by kernel_rfl) (by kernel_rfl) (fun _ _ _ h => h) (Or.inl ⟨by rfl, ?_⟩) (by assumption) ?_
    case refine_2 => (intro w hSw; skip; go_simp; first | done | with_reducible rfl)
    simp only [Act.put, List.setIfInBounds_toArray, List.set_cons_zero, List.set_cons_succ]
    refine wpAnyH_take (i := 2) (oi := ⟨some 79, _, _, _, _, _⟩) (v := ?_) rfl (by kernel_rfl) (by kernel_rfl) (by kernel_rfl) (fun _ _ _ h => h) (Or.inl ⟨by rfl, ?_⟩) (by assumption) ?_
    case refine_2 => (intro w hSw; skip; go_simp; first | done | with_reducible rfl)
    simp only [Act.put, List.setIfInBounds_toArray, List.set_cons_zero, List.set_cons_succ]
    refine wpAnyH_take (i := 3) (oi := ⟨some 80, _, _, _, _, _⟩) (v := ?_) rfl (by kernel_rfl) (by kernel_rfl) (by kernel_rfl) (fun _ _ _ h => h) (Or.inl ⟨by rfl, ?_⟩) (by assumption) ?_
    case refine_2 => (intro w hSw; skip; go_simp; first | done | with_reducible rfl)
    simp only [Act.put, List.setIfInBounds_toArray, List.set_cons_zero, List.set_cons_succ]
    refine wpAnyH_take (i := 4) (oi := ⟨some 81, _, _, _, _, _⟩) (v := ?_) rfl (by kernel_rfl) (by kernel_rfl) (by kernel_rfl) (fun _ _ _ h => h) (Or.inl ⟨by rfl, ?_⟩) (by assumption) ?_
    case refine_2 => (intro w hSw; skip; go_simp; first | done | with_reducible rfl)
    simp only [Act.put, List.setIfInBounds_toArray, List.set_cons_zero, List.set_cons_succ]
    refine wpAnyH_take (i := 5) (oi := ⟨some 82, _, _, _, _, _⟩) (v := ?_) rfl (by kernel_rfl) (by kernel_rfl) (by kernel_rfl) (fun _ _ _ h => h) (Or.inl ⟨by rfl, ?_⟩) (by assumption) ?_
    case refine_2 => (intro w hSw; skip; go_simp; first | done | with_reducible rfl)
    simp only [Act.put, List.setIfInBounds_toArray, List.set_cons_zero, List.set_cons_succ]
    refine wpAnyH_ready (rs := [6]) (by kernel_rfl) (by simp) ?_
    refine AllReadyH.cons (o := ⟨some 83, _, _, _, _, _⟩) rfl (fun K hK => ?_) AllReadyH.nil
    go_simp
    refine (C4.out _ (hSr.out _ hHeld.1 hHeld.2)).mono ?_; rintro e w7 ⟨rfl, b7⟩
    go_wp2_with fail
    refine hK.out _ _ (⟨hHeld.1.keep b7, bl_trans hHeld.2 b7⟩) (fun hHeld => ?_)
    clear hK K
    try simp only [Act.put, List.setIfInBounds_toArray, List.set_cons_zero, List.set_cons_succ]
    refine wpAnyH_take (i := 7) (oi := ⟨some 76, _, _, _, _, _⟩) (v := ?_) rfl (by kernel_rfl) (by kernel_rfl) (by kernel_rfl) (fun _ _ _ h => h) (Or.inl ⟨by rfl, ?_⟩) (by assumption) ?_
    case refine_2 => (intro w hSw; skip; go_simp; first | done | with_reducible rfl)
    simp only [Act.put, List.setIfInBounds_toArray, List.set_cons_zero, List.set_cons_succ]
    refine wpAnyH_take (i := 8) (oi := ⟨some 84, _, _, _, _, _⟩) (v := ?_) rfl (by kernel_rfl) (by kernel_rfl) (by kernel_rfl) (fun _ _ _ h => h) (Or.inl ⟨by rfl, ?_⟩) (by assumption) ?_
    case refine_2 => (intro w hSw; skip; go_simp; first | done | with_reducible rfl)
    simp only [Act.put, List.setIfInBounds_toArray, List.set_cons_zero, List.set_cons_succ]
    refine wpAnyH_take (i := 9) (oi := ⟨some 85, _, _, _, _, _⟩) (v := ?_) rfl (by kernel_rfl) (by kernel_rfl) (by kernel_rfl) (fun _ _ _ h => h) (Or.inl ⟨by rfl, ?_⟩) (by assumption) ?_
    case refine_2 => (intro w hSw; skip; go_simp; first | done | with_reducible rfl)
    simp only [Act.put, List.setIfInBounds_toArray, List.set_cons_zero, List.set_cons_succ]
    refine wpAnyH_take (i := 10) (oi := ⟨some 16, _, _, _, _, _⟩) (v := ?_) rfl (by kernel_rfl) (by kernel_rfl) (by kernel_rfl) (fun _ _ _ h => h) (Or.inl ⟨by rfl, ?_⟩) (by assumption) ?_
    case refine_2 => (intro w hSw; skip; go_simp; first | done | with_reducible rfl)
    simp only [Act.put, List.setIfInBounds_toArray, List.set_cons_zero, List.set_cons_succ]
    refine wpAnyH_take (i := 11) (oi := ⟨some 17, _, _, _, _, _⟩) (v := ?_) rfl (by kernel_rfl) (by kernel_rfl) (by kernel_rfl) (fun _ _ _ h => h) (Or.inl ⟨by rfl, ?_⟩) (by assumption) ?_
    case refine_2 => (intro w hSw; skip; go_simp; first | done | with_reducible rfl)
    simp only [Act.put, List.setIfInBounds_toArray, List.set_cons_zero, List.set_cons_succ]
    refine wpAnyH_done (by kernel_rfl) ?_ _
    obtain ⟨P7, n7⟩ := hHeld
    have cP := P7.cell
    go_wp2_with fail
    clear cP
    refine (C5.out _ (hSr.out _ P7 n7)).mono ?_; rintro e w8 ⟨rfl, b8⟩
    have P8 := P7.keep b8
    have n8 := bl_trans n7 b8
    clear P7 n7 b8
    have cP := P8.cell
    have hm1 : (1 : Int) ≤ (m : Int) := by omega
    clear cP
    go_upto_region 14 with fail
    go_big_region
    go_wp2_with fail
    go_ret
    exact ⟨rfl, bl_trans b1 n8.drew⟩

set_option maxRecDepth 100000 in
theorem FnReplaced_args {H : Type} {enc : TypeId × Value → H} (W : World) (base : Nat) (args : Array Value) (ds : List (DataW H)) (p : List MemPlace)
    (hval : ∀ (j : Nat) t v, Try.f7.params[j]? = some t → args[j]? = some v → Value.okWide Try.checked.prog W .any base t v)
    (hA : DataW.TrodAll enc Try.checked.prog W 0 (fun _ => true) true Try.f7.params.toList args.toList ds p) :
    Calls Try.checked.prog 7 args W fun e W' => e = .returned (.bool true) ∧ Below W.heap.size W W' := by
  rw [Try.params7] at hA hval
  obtain ⟨v0, d0, rfl, rfl, h0⟩ := trodAll_one hA
  obtain ⟨A0, c0, bs, rfl, R, Wf, hlz⟩ := open_nums Try.underlying34 Try.underlying5 (by kernel_rfl) (hval 0 34 v0 rfl rfl) h0
  exact FnReplaced_walk A0 c0 bs W R (byt_of_wf Wf)

set_option maxRecDepth 100000 in
theorem FnReplaced_holds : Rows.FnReplacedSaid :=
  OpenClaim.holds_of_wide 7 Try.f7 rfl rfl rfl rfl rfl rfl rfl ⟨rfl, rfl, rfl, rfl, rfl⟩ rfl rfl rfl rfl rfl (by kernel_rfl) Try.func7 (by kernel_rfl)
    (of_decide_eq_true (by kernel_rfl)) (by unfold Func.isWrapper; rw [if_neg (of_decide_eq_false (by kernel_rfl))]; exact ⟨rfl, rfl⟩)
    (fun os started H enc _ => law_lift 7 Try.f7 Rows.fnReplacedSpec 4 own laidOut started (by kernel_rfl) Try.func7 (by kernel_rfl) rfl (by kernel_rfl) Try.underlying4
      (fun ds h => by
        have hl : ds.length = 1 := h.trans (by kernel_rfl)
        obtain ⟨d, rfl⟩ := len1 hl
        rfl)
      (ChangeSpec.witness6 (enc := enc) (C := Try.checked) false ⟨#[], #[.slice none 0 0], []⟩ 8 (by kernel_rfl) (by kernel_rfl) (by kernel_rfl) (by kernel_rfl))
      FnReplaced_args)
#print axioms FnReplaced_holds

end Go.Proofs.Ytdfcgnbklnceiaa
