/- FnRexes: a drawn regular expression that is right comes back of its text. No condition. -/
import Derived.Test.YtdfcgnbklnceiaaLift
import Derived.Test.YtdfcgnbklnceiaaOpenB
import Derived.Test.YtdfcgnbklnceiaaBig
import Derived.Test.YtdfcgnbklnceiaaRexJ
import Derived.Test.YtdfcgnbklnceiaaParB
namespace Go.Proofs.Ytdfcgnbklnceiaa
open Go.ChangeShapes Go.WideShapes Go.ChangeAt Go.RowKit
open Go.ChangeMaps (open_string shut_string)

set_option maxRecDepth 20000 in
set_option maxHeartbeats 4000000 in
theorem FnRexes_walk (A0 : Option Addr) (c0 : Nat) (bs : List Int) (w : World) (hR : Reads w w.heap.size 1 A0 bs.length (u8s bs)) (hZ : Byt bs) :
    Calls Try.prog 9 #[.slice A0 bs.length c0] w fun e w' => e = .returned (.bool true) ∧ Below w.heap.size w w' := by
  by_cases hn : bs.length ≤ 1048576
  case neg =>
    have hgt : (1048576 : Int) < (bs.length : Int) := by omega
    go_enter Try.func9, Try.ntmps9
    go_wp2_with fail
    refine (big_any _ _ _ _).mono ?_; rintro e w1 ⟨rfl, rfl⟩
    go_wp2_with fail
    go_ret
    exact ⟨rfl, Below.refl _ _⟩
  have hng : ¬ (1048576 : Int) < (bs.length : Int) := by omega
  go_enter Try.func9, Try.ntmps9
  go_wp2_with fail
  refine (big_any _ _ _ _).mono ?_; rintro e w1 ⟨rfl, rfl⟩
  go_wp2_with fail
  refine (dRexText A0 bs.length c0 bs _ hR hZ hn).mono ?_; rintro e w1 ⟨⟨zk, zs, kids, A, c, rfl, hS, hsm⟩, b1⟩
  have hks : kids.size ≤ 400 := hsm.2.2
  have hzs : zs.size ≤ 3 := hsm.1
  have hq3 : FrOk qSmall kids := three_of hsm.2.1
  have hwt : zs.size + wt gRex kids ≤ 1048576 := by have h1 := wt_three hsm.2.1; omega
  have N2 := Blk.new w1 30 #[.int .i64 zk, .string zs, .slice A kids.len c]
  have L2 := bl_alloc b1 (.cells #[.int .i64 zk, .string zs, .slice A kids.len c] 30)
  have hS2 := hS.keep (w' := w1.alloc (.cells #[.int .i64 zk, .string zs, .slice A kids.len c] 30)) (fun p _ h2 => World.cell?_alloc_lt _ _ _ h2) (Nat.zero_le _) (Nat.le_refl _)
  have s2 := Nat.le_of_eq (alloc_size w1 (.cells #[.int .i64 zk, .string zs, .slice A kids.len c] 30)).symm
  have cT := fun A c w h => iRexText zk zs kids A c w (by omega) (by omega) hq3 hwt h
  have cO := fun A c w h => sRexOk zk zs kids A c w (by omega) (by omega) hq3 h
  have cI := fun A c w h => iRexOk zk zs kids A c w (by omega) (by omega) hq3 h
  have hP := fun h => parse_text (z := true) (n := 40) (by omega) (k := zk) (t := zs) (kids := kids) h
  have hTs : (rexTx zk zs kids).size ≤ 1000 := by
    unfold rexTx
    split
    · exact (rexB_small (by assumption)).2.2.2
    · exact Nat.zero_le _
  have hT0 : rexB zk zs kids = false → rexTx zk zs kids = ⟨#[]⟩ := fun h => by unfold rexTx; rw [h]; rfl
  generalize rexTx zk zs kids = T at cT hP hTs hT0
  generalize rexB zk zs kids = b at cO cI hP hT0
  have CT := Lib.hid cT
  have CO := Lib.hid cO
  have CI := Lib.hid cI
  clear cT cO cI hS
  go_upto_region 4 with fail
  generalize w1.alloc (.cells #[.int .i64 zk, .string zs, .slice A kids.len c] 30) = w2 at N2 L2 hS2 s2 ⊢
  generalize w1.heap.size = nb at *
  have n2 := N2.cell
  go_wp2_with fail
  refine (CT.out _ _ _ (hS2.more (Nat.le_refl _) (by omega))).mono ?_; rintro e w3 ⟨rfl, b3⟩
  have N3 := N2.keep b3
  have L3 := bl_trans L2 b3
  have hS3 := hS2.keep (w' := w3) (fun p _ h2 => b3.cell (by omega)) (Nat.le_refl _) (Nat.le_refl _)
  have s3 := b3.size
  have n3 := N3.cell
  clear N2 L2 hS2 n2 b3
  go_wp2_with fail
  refine (CO.out _ _ _ (hS3.more (Nat.le_refl _) (by omega))).mono ?_; rintro e w4 ⟨rfl, b4⟩
  have N4 := N3.keep b4
  have L4 := bl_trans L3 b4
  have hS4 := hS3.keep (w' := w4) (fun p _ h2 => b4.cell (by omega)) (Nat.le_refl _) (Nat.le_refl _)
  have s4 := b4.size
  have n4 := N4.cell
  clear N3 L3 hS3 n3 b4
  cases b
  · obtain rfl := hT0 rfl
    have he : ((⟨#[]⟩ : ByteArray).toList == (⟨#[]⟩ : ByteArray).toList) = true := by simp
    go_wp2_with fail
    refine (CI.out _ _ _ (hS4.more (Nat.le_refl _) (by omega))).mono ?_; rintro e w5 ⟨rfl, b5⟩
    go_wp2_with fail
    go_ret
    exact ⟨rfl, bl_trans L4 b5⟩
  · have cP := iParseRex T w4 (by omega)
    rw [hP rfl] at cP
    have CP := Lib.hid cP
    clear cP hP hT0
    go_wp2_with fail
    refine CP.out.mono ?_; rintro e w5 ⟨⟨xk, xt, xkids, Ay, cy, rfl, hY, hx⟩, b5⟩
    obtain ⟨⟨rfl, rfl⟩, rfl⟩ : (zk = xk ∧ zs = xt) ∧ kids = xkids := by
      have hx' : ((zk, zs), kids) = ((xk, xt), xkids) := hx
      simpa only [Prod.mk.injEq] using hx'
    clear hx CP
    have N5 := N4.keep b5
    have L5 := bl_trans L4 b5
    have hS5 := hS4.keep (w' := w5) (fun p _ h2 => b5.cell (by omega)) (Nat.le_refl _) (Nat.le_refl _)
    have s5 := b5.size
    have M6 := Blk.new w5 30 #[.int .i64 zk, .string zs, .slice Ay kids.len cy]
    have N6 := N5.alloc (.cells #[.int .i64 zk, .string zs, .slice Ay kids.len cy] 30)
    have L6 := bl_alloc L5 (.cells #[.int .i64 zk, .string zs, .slice Ay kids.len cy] 30)
    have hS6 := hS5.keep (w' := w5.alloc (.cells #[.int .i64 zk, .string zs, .slice Ay kids.len cy] 30)) (fun p _ h2 => World.cell?_alloc_lt _ _ _ (by omega)) (Nat.le_refl _) (Nat.le_refl _)
    have hY6 := hY.keep (w' := w5.alloc (.cells #[.int .i64 zk, .string zs, .slice Ay kids.len cy] 30)) (fun p _ h2 => World.cell?_alloc_lt _ _ _ h2) (Nat.zero_le _) (Nat.le_refl _)
    have s6 := Nat.le_of_eq (alloc_size w5 (.cells #[.int .i64 zk, .string zs, .slice Ay kids.len cy] 30)).symm
    clear N4 L4 hS4 n4 b5 N5 L5 hS5 hY
    go_upto_region 8 with fail
    generalize w5.alloc (.cells #[.int .i64 zk, .string zs, .slice Ay kids.len cy] 30) = w6 at M6 N6 L6 hS6 hY6 s6 ⊢
    generalize w5.heap.size = mb at *
    have n6 := N6.cell
    have m6 := M6.cell
    go_wp2_with fail
    refine (CT.out _ _ _ (hY6.more (Nat.le_refl _) (by omega))).mono ?_; rintro e w7 ⟨rfl, b7⟩
    have he : (T.toList == T.toList) = true := by simp
    have n7 := (N6.keep b7).cell
    have s7 := b7.size
    go_wp2_with fail
    refine (CI.out _ _ _ ((hS6.keep (w' := w7) (fun p _ h2 => b7.cell (by omega)) (Nat.le_refl _) (Nat.le_refl _)).more (Nat.le_refl _) (by omega))).mono ?_; rintro e w8 ⟨rfl, b8⟩
    have b78 := bl_trans b7 b8
    have m8 := (M6.keep b78).cell
    have n8 := (N6.keep b78).cell
    have s8 := b8.size
    clear n6 m6 n7
    go_wp2_with fail
    refine (CI.out _ _ _ ((hY6.keep (w' := w8) (fun p _ h2 => b78.cell (by omega)) (Nat.le_refl _) (Nat.le_refl _)).more (Nat.le_refl _) (by omega))).mono ?_; rintro e w9 ⟨rfl, b9⟩
    have b79 := bl_trans b78 b9
    have m9 := (M6.keep b79).cell
    have n9 := (N6.keep b79).cell
    clear n8 m8
    go_wp2_with fail
    go_ret
    exact ⟨by simp, bl_trans L6 b79⟩

set_option maxRecDepth 100000 in
theorem FnRexes_args {H : Type} {enc : TypeId × Value → H} (W : World) (base : Nat) (args : Array Value) (ds : List (DataW H)) (p : List MemPlace)
    (hval : ∀ (j : Nat) t v, Try.f9.params[j]? = some t → args[j]? = some v → Value.okWide Try.checked.prog W .any base t v)
    (hA : DataW.TrodAll enc Try.checked.prog W 0 (fun _ => true) true Try.f9.params.toList args.toList ds p) :
    Calls Try.checked.prog 9 args W fun e W' => e = .returned (.bool true) ∧ Below W.heap.size W W' := by
  rw [Try.params9] at hA hval
  obtain ⟨v0, d0, rfl, rfl, h0⟩ := trodAll_one hA
  obtain ⟨A0, c0, bs, rfl, R, Wf, hlz⟩ := open_nums Try.underlying34 Try.underlying5 (by kernel_rfl) (hval 0 34 v0 rfl rfl) h0
  exact FnRexes_walk A0 c0 bs W R (byt_of_wf Wf)

set_option maxRecDepth 100000 in
theorem FnRexes_holds : Rows.FnRexesSaid :=
  OpenClaim.holds_of_wide 9 Try.f9 rfl rfl rfl rfl rfl rfl rfl ⟨rfl, rfl, rfl, rfl, rfl⟩ rfl rfl rfl rfl rfl (by kernel_rfl) Try.func9 (by kernel_rfl)
    (of_decide_eq_true (by kernel_rfl)) (by unfold Func.isWrapper; rw [if_neg (of_decide_eq_false (by kernel_rfl))]; exact ⟨rfl, rfl⟩)
    (fun os started H enc _ => law_lift 9 Try.f9 Rows.fnRexesSpec 4 own laidOut started (by kernel_rfl) Try.func9 (by kernel_rfl) rfl (by kernel_rfl) Try.underlying4
      (fun ds h => by
        have hl : ds.length = 1 := h.trans (by kernel_rfl)
        obtain ⟨d, rfl⟩ := len1 hl
        rfl)
      (ChangeSpec.witness6 (enc := enc) (C := Try.checked) false ⟨#[], #[.slice none 0 0], []⟩ 8 (by kernel_rfl) (by kernel_rfl) (by kernel_rfl) (by kernel_rfl))
      FnRexes_args)
#print axioms FnRexes_holds

end Go.Proofs.Ytdfcgnbklnceiaa
