/- FnRexesRead: what is read of a drawn text as a regular expression is right, and has that text. No condition. -/
import Derived.Test.YtdfcgnbklnceiaaLift
import Derived.Test.YtdfcgnbklnceiaaOpenB
import Derived.Test.YtdfcgnbklnceiaaBig
import Derived.Test.YtdfcgnbklnceiaaRexJ
import Derived.Test.YtdfcgnbklnceiaaParB
import Derived.Test.YtdfcgnbklnceiaaPasF
namespace Go.Proofs.Ytdfcgnbklnceiaa
open Go.ChangeShapes Go.WideShapes Go.ChangeAt Go.RowKit
open Go.ChangeMaps (open_string shut_string)

theorem small_of_wtP : ∀ (fr : Fr (Int × ByteArray)), wt gRex fr ≤ 1048576 → FrOk qSmall fr
  | .nil, _ => trivial
  | .cons a k r, h => by
    simp only [wt, gRex] at h
    have := len_wt gRex k
    exact ⟨by show a.2.size ≤ _; omega, by omega, small_of_wtP k (by omega), small_of_wtP r (by omega)⟩

set_option maxRecDepth 20000 in
set_option maxHeartbeats 4000000 in
theorem FnRexesRead_walk (A0 : Option Addr) (c0 : Nat) (bs : List Int) (w : World) (hR : Reads w w.heap.size 1 A0 bs.length (u8s bs)) (hZ : Byt bs) :
    Calls Try.prog 10 #[.slice A0 bs.length c0] w fun e w' => e = .returned (.bool true) ∧ Below w.heap.size w w' := by
  by_cases hn : bs.length ≤ 1048576
  case neg =>
    have hgt : (1048576 : Int) < (bs.length : Int) := by omega
    go_enter Try.func10, Try.ntmps10
    go_wp2_with fail
    refine (big_any _ _ _ _).mono ?_; rintro e w1 ⟨rfl, rfl⟩
    go_wp2_with fail
    go_ret
    exact ⟨rfl, Below.refl _ _⟩
  have hng : ¬ (1048576 : Int) < (bs.length : Int) := by omega
  go_enter Try.func10, Try.ntmps10
  go_wp2_with fail
  refine (big_any _ _ _ _).mono ?_; rintro e w1 ⟨rfl, rfl⟩
  go_wp2_with fail
  refine (dParse A0 bs.length c0 bs _ hR hZ hn).mono ?_; rintro e w1 ⟨⟨s, rfl, hs⟩, b1⟩
  have cI := fun w => iParseRex s w (by omega)
  have cS := fun w => sParseRex s w
  simp only [← parse_same s] at cS
  have hP := fun x => parse_sound (z := true) (n := 40) (s := s) (x := x)
  generalize parseP true 40 s = P at cI cS hP
  have CI := Lib.hid cI
  have CS := Lib.hid cS
  clear cI cS
  cases P
  case none =>
    clear hP
    go_wp2_with fail
    refine (CI.out _).mono ?_; rintro e w2 ⟨⟨k, t, kids, A, c, rfl, hS, hx⟩, b2⟩
    have L2 := bl_trans b1 b2
    have N3 := Blk.new w2 30 #[.int .i64 k, .string t, .slice A kids.len c]
    have L3 := bl_alloc L2 (.cells #[.int .i64 k, .string t, .slice A kids.len c] 30)
    have hS3 := hS.keep (w' := w2.alloc (.cells #[.int .i64 k, .string t, .slice A kids.len c] 30)) (fun p _ h2 => World.cell?_alloc_lt _ _ _ h2) (Nat.zero_le _) (Nat.le_refl _)
    have s3 := Nat.le_of_eq (alloc_size w2 (.cells #[.int .i64 k, .string t, .slice A kids.len c] 30)).symm
    go_upto_region 5 with fail
    generalize w2.alloc (.cells #[.int .i64 k, .string t, .slice A kids.len c] 30) = w3 at N3 L3 hS3 s3 ⊢
    generalize w2.heap.size = nb at *
    go_wp2_with fail
    refine (CS.out _).mono ?_; rintro e w4 ⟨⟨k2, t2, kids2, A2, c2, rfl, _, _⟩, b4⟩
    have N4 := N3.keep b4
    have L4 := bl_trans L3 b4
    have hS4 := hS3.keep (w' := w4) (fun p _ h2 => b4.cell (by omega)) (Nat.le_refl _) (Nat.le_refl _)
    have s4 := b4.size
    have N5 := N4.alloc (.cells #[.int .i64 k2, .string t2, .slice A2 kids2.len c2] 30)
    have L5 := bl_alloc L4 (.cells #[.int .i64 k2, .string t2, .slice A2 kids2.len c2] 30)
    have hS5 := hS4.keep (w' := w4.alloc (.cells #[.int .i64 k2, .string t2, .slice A2 kids2.len c2] 30)) (fun p _ h2 => World.cell?_alloc_lt _ _ _ (by omega)) (Nat.le_refl _) (Nat.le_refl _)
    have s5 := Nat.le_of_eq (alloc_size w4 (.cells #[.int .i64 k2, .string t2, .slice A2 kids2.len c2] 30)).symm
    go_upto_region 6 with fail
    generalize w4.alloc (.cells #[.int .i64 k2, .string t2, .slice A2 kids2.len c2] 30) = w5 at N5 L5 hS5 s5 ⊢
    have n5 := N5.cell
    obtain ⟨⟨rfl, rfl⟩, rfl⟩ : (0 = k ∧ ⟨#[]⟩ = t) ∧ Fr.nil = kids := by
      have hx' : (((0 : Int), (⟨#[]⟩ : ByteArray)), (Fr.nil : Fr (Int × ByteArray))) = ((k, t), kids) := hx
      simpa only [Prod.mk.injEq] using hx'
    go_wp2_with fail
    go_ret
    exact ⟨rfl, L5⟩
  case some y =>
    obtain ⟨⟨yk, yt⟩, ykids⟩ := y
    obtain ⟨hb, hT⟩ := hP _ rfl
    simp only at hb hT
    obtain ⟨h59, h10, hwt, _⟩ := rexB_small hb
    have hq : FrOk qSmall ykids := small_of_wtP ykids (by omega)
    have cT := fun A c w h => iRexText yk yt ykids A c w (by omega) (by omega) hq hwt h
    have cO := fun A c w h => iRexOk yk yt ykids A c w (by omega) (by omega) hq h
    rw [hT] at cT
    rw [hb] at cO
    have CT := Lib.hid cT
    have CO := Lib.hid cO
    clear cT cO hT hb hP
    go_wp2_with fail
    refine (CI.out _).mono ?_; rintro e w2 ⟨⟨k, t, kids, A, c, rfl, hS, hx⟩, b2⟩
    have L2 := bl_trans b1 b2
    have N3 := Blk.new w2 30 #[.int .i64 k, .string t, .slice A kids.len c]
    have L3 := bl_alloc L2 (.cells #[.int .i64 k, .string t, .slice A kids.len c] 30)
    have hS3 := hS.keep (w' := w2.alloc (.cells #[.int .i64 k, .string t, .slice A kids.len c] 30)) (fun p _ h2 => World.cell?_alloc_lt _ _ _ h2) (Nat.zero_le _) (Nat.le_refl _)
    have s3 := Nat.le_of_eq (alloc_size w2 (.cells #[.int .i64 k, .string t, .slice A kids.len c] 30)).symm
    go_upto_region 5 with fail
    generalize w2.alloc (.cells #[.int .i64 k, .string t, .slice A kids.len c] 30) = w3 at N3 L3 hS3 s3 ⊢
    generalize w2.heap.size = nb at *
    go_wp2_with fail
    refine (CS.out _).mono ?_; rintro e w4 ⟨⟨k2, t2, kids2, A2, c2, rfl, _, _⟩, b4⟩
    have N4 := N3.keep b4
    have L4 := bl_trans L3 b4
    have hS4 := hS3.keep (w' := w4) (fun p _ h2 => b4.cell (by omega)) (Nat.le_refl _) (Nat.le_refl _)
    have s4 := b4.size
    have N5 := N4.alloc (.cells #[.int .i64 k2, .string t2, .slice A2 kids2.len c2] 30)
    have L5 := bl_alloc L4 (.cells #[.int .i64 k2, .string t2, .slice A2 kids2.len c2] 30)
    have hS5 := hS4.keep (w' := w4.alloc (.cells #[.int .i64 k2, .string t2, .slice A2 kids2.len c2] 30)) (fun p _ h2 => World.cell?_alloc_lt _ _ _ (by omega)) (Nat.le_refl _) (Nat.le_refl _)
    have s5 := Nat.le_of_eq (alloc_size w4 (.cells #[.int .i64 k2, .string t2, .slice A2 kids2.len c2] 30)).symm
    go_upto_region 6 with fail
    generalize w4.alloc (.cells #[.int .i64 k2, .string t2, .slice A2 kids2.len c2] 30) = w5 at N5 L5 hS5 s5 ⊢
    have n5 := N5.cell
    obtain ⟨⟨rfl, rfl⟩, rfl⟩ : (yk = k ∧ yt = t) ∧ ykids = kids := by
      have hx' : ((yk, yt), ykids) = ((k, t), kids) := hx
      simpa only [Prod.mk.injEq] using hx'
    go_wp2_with fail
    refine (CO.out _ _ _ (hS5.more (Nat.le_refl _) (by omega))).mono ?_; rintro e w6 ⟨rfl, b6⟩
    have n6 := (N5.keep b6).cell
    have s6 := b6.size
    go_wp2_with fail
    refine (CT.out _ _ _ ((hS5.keep (w' := w6) (fun p _ h2 => b6.cell (by omega)) (Nat.le_refl _) (Nat.le_refl _)).more (Nat.le_refl _) (by omega))).mono ?_; rintro e w7 ⟨rfl, b7⟩
    have he : (s.toList == s.toList) = true := by simp
    go_wp2_with fail
    go_ret
    exact ⟨by simp, bl_trans L5 (bl_trans b6 b7)⟩


set_option maxRecDepth 100000 in
theorem FnRexesRead_args {H : Type} {enc : TypeId × Value → H} (W : World) (base : Nat) (args : Array Value) (ds : List (DataW H)) (p : List MemPlace)
    (hval : ∀ (j : Nat) t v, Try.f10.params[j]? = some t → args[j]? = some v → Value.okWide Try.checked.prog W .any base t v)
    (hA : DataW.TrodAll enc Try.checked.prog W 0 (fun _ => true) true Try.f10.params.toList args.toList ds p) :
    Calls Try.checked.prog 10 args W fun e W' => e = .returned (.bool true) ∧ Below W.heap.size W W' := by
  rw [Try.params10] at hA hval
  obtain ⟨v0, d0, rfl, rfl, h0⟩ := trodAll_one hA
  obtain ⟨A0, c0, bs, rfl, R, Wf, hlz⟩ := open_nums Try.underlying34 Try.underlying5 (by kernel_rfl) (hval 0 34 v0 rfl rfl) h0
  exact FnRexesRead_walk A0 c0 bs W R (byt_of_wf Wf)

set_option maxRecDepth 100000 in
theorem FnRexesRead_holds : Rows.FnRexesReadSaid :=
  OpenClaim.holds_of_wide 10 Try.f10 rfl rfl rfl rfl rfl rfl rfl ⟨rfl, rfl, rfl, rfl, rfl⟩ rfl rfl rfl rfl rfl (by kernel_rfl) Try.func10 (by kernel_rfl)
    (of_decide_eq_true (by kernel_rfl)) (by unfold Func.isWrapper; rw [if_neg (of_decide_eq_false (by kernel_rfl))]; exact ⟨rfl, rfl⟩)
    (fun os started H enc _ => law_lift 10 Try.f10 Rows.fnRexesReadSpec 4 own laidOut started (by kernel_rfl) Try.func10 (by kernel_rfl) rfl (by kernel_rfl) Try.underlying4
      (fun ds h => by
        have hl : ds.length = 1 := h.trans (by kernel_rfl)
        obtain ⟨d, rfl⟩ := len1 hl
        rfl)
      (ChangeSpec.witness6 (enc := enc) (C := Try.checked) false ⟨#[], #[.slice none 0 0], []⟩ 8 (by kernel_rfl) (by kernel_rfl) (by kernel_rfl) (by kernel_rfl))
      FnRexesRead_args)
#print axioms FnRexesRead_holds

end Go.Proofs.Ytdfcgnbklnceiaa
