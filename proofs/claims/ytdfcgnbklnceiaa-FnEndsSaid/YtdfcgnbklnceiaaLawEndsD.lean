/- FnEnds: where a drawn expression may end rises, is not ahead of where it begins, and not behind the text. No condition. -/
import Derived.Test.YtdfcgnbklnceiaaLift
import Derived.Test.YtdfcgnbklnceiaaOpenB
import Derived.Test.YtdfcgnbklnceiaaRexG
import Derived.Test.YtdfcgnbklnceiaaBig
import Derived.Test.YtdfcgnbklnceiaaEndsL
import Derived.Test.YtdfcgnbklnceiaaIntS
namespace Go.Proofs.Ytdfcgnbklnceiaa
open Go.ChangeShapes Go.WideShapes Go.ChangeAt Go.RowKit
open Go.ChangeMaps (open_string shut_string)

theorem three_of : ∀ {fr : Fr (Int × ByteArray)}, FrOk qThree fr → FrOk qSmall fr
  | .nil, _ => trivial
  | .cons _ _ _, h => ⟨Nat.le_trans h.1 (by decide), h.2.1, three_of h.2.2.1, three_of h.2.2.2⟩
theorem wt_three : ∀ {fr : Fr (Int × ByteArray)}, FrOk qThree fr → wt gRex fr ≤ 4 * fr.size
  | .nil, _ => Nat.le_refl _
  | .cons a k r, h => by
    have h1 := wt_three h.2.2.1
    have h2 := wt_three h.2.2.2
    have h3 : a.2.size ≤ 3 := h.1
    simp only [wt, gRex, Fr.size]
    omega

theorem asc_filter (V : Nat → Bool) (m : Nat) : Asc (rowI V m) := fun k hk => by
  have hp : (rowI V m).Pairwise (· < ·) := List.Pairwise.filter _ (List.pairwise_lt_range)
  rw [get_bang (by omega), get_bang hk]
  exact List.pairwise_iff_getElem.1 hp k (k + 1) (by omega) hk (by omega)
theorem ends_all (zk : Int) (zs : ByteArray) (kids : Fr (Int × ByteArray)) (s : ByteArray) (a : Int) : Asc (endsB zk zs kids s a) ∧ (∀ x ∈ endsB zk zs kids s a, a ≤ (x : Int) ∧ x ≤ s.size) ∧ (endsB zk zs kids s a).length ≤ s.size + 1 := by
  by_cases h : rexB zk zs kids = true ∧ s.size ≤ 200 ∧ 0 ≤ a ∧ a ≤ s.size
  · obtain ⟨n, rfl⟩ := Int.eq_ofNat_of_zero_le h.2.2.1
    have hn : n ≤ s.size := by omega
    rw [endsB_yes h.1 h.2.1 hn]
    refine ⟨asc_filter _ _, fun x hx => ?_, rowI_len _ _⟩
    have h1 := bof_iff.1 (List.mem_filter.1 hx).2
    have h2 := fwd_of s zk zs kids n x (by omega) h1
    omega
  · rw [endsB_no h]
    exact ⟨fun k hk => by simp at hk, fun x hx => (by cases hx), Nat.zero_le _⟩
set_option maxRecDepth 20000 in
set_option maxHeartbeats 8000000 in
theorem FnEnds_walk (A0 : Option Addr) (c0 : Nat) (bs : List Int) (w : World) (hR : Reads w w.heap.size 1 A0 bs.length (u8s bs)) (hZ : Byt bs) :
    Calls Try.prog 5 #[.slice A0 bs.length c0] w fun e w' => e = .returned (.bool true) ∧ Below w.heap.size w w' := by
  by_cases hn : bs.length ≤ 1048576
  case neg =>
    have hgt : (1048576 : Int) < (bs.length : Int) := by omega
    go_enter Try.func5, Try.ntmps5
    go_wp2_with fail
    refine (big_any _ _ _ _).mono ?_; rintro e w1 ⟨rfl, rfl⟩
    go_wp2_with fail
    go_ret
    exact ⟨rfl, Below.refl _ _⟩
  have hng : ¬ (1048576 : Int) < (bs.length : Int) := by omega
  go_enter Try.func5, Try.ntmps5
  go_wp2_with fail
  refine (big_any _ _ _ _).mono ?_; rintro e w1 ⟨rfl, rfl⟩
  go_wp2_with fail
  refine (dEnds A0 bs.length c0 bs _ hR hZ hn).mono ?_; rintro e w1 ⟨⟨zk, zs, kids, A, c, s, a, rfl, ⟨hs, _, _⟩, hS1, hsm⟩, b1⟩
  have hks : kids.size ≤ 1048576 := by have := hsm.2.2; omega
  have hzs : zs.size ≤ 1048576 := by have := hsm.1; omega
  have hq3 : FrOk qSmall kids := three_of hsm.2.1
  have hwt : zs.size + wt gRex kids ≤ 1048576 := by have h1 := wt_three hsm.2.1; have h2 := hsm.2.2; have h3 := hsm.1; omega
  have hss : s.size ≤ 1048576 := by omega
  obtain ⟨hasc, hin, hlen⟩ := ends_all zk zs kids s a
  go_wp2_with fail
  have P2 := Blk.new w1 30 #[.int .i64 zk, .string zs, .slice A kids.len c]
  have hSr := Lib.hid fun (x : World) (hP : Blk x w1.heap.size 30 #[.int .i64 zk, .string zs, .slice A kids.len c]) (hL : Below w1.heap.size w1 x) => (hS1.below hL (Nat.le_refl _)).more (lo' := 0) (hi' := x.heap.size) (Nat.zero_le _) (Nat.le_of_lt hP.lt)
  have n2 := bl_alloc (Below.refl w1.heap.size w1) (.cells #[.int .i64 zk, .string zs, .slice A kids.len c] 30)
  have CI := Lib.hid fun w h => iEnds zk zs kids A c s a w hks hzs hq3 hwt hss h
  have CS := Lib.hid fun w h => sEnds zk zs kids A c s a w hks hzs hq3 hwt hss h
  clear hS1
  generalize endsB zk zs kids s a = l at hasc hin hlen CI CS
  generalize w1.alloc (.cells #[.int .i64 zk, .string zs, .slice A kids.len c] 30) = w2 at P2 n2 ⊢
  refine (CI.out _ (hSr.out _ P2 n2)).mono ?_; rintro e w3 ⟨⟨v3, rfl, O3⟩, b3⟩
  obtain ⟨A3, c3, rfl⟩ := O3.form
  have P3 := P2.keep b3
  have n3 := bl_trans n2 b3
  have cP := P3.cell
  go_wp2_with fail
  clear cP
  refine (CS.out _ (hSr.out _ P3 n3)).mono ?_; rintro e w4 ⟨⟨v4, rfl, O4⟩, b4⟩
  obtain ⟨A4, c4, rfl⟩ := O4.form
  have n4 := bl_trans n3 b4
  have O34 := O3.keep b4
  go_wp2_with fail
  refine (sameI_any l A3 A4 c3 c4 _ (by omega) O34.reads O4.reads).mono ?_; rintro e w5 ⟨rfl, b5⟩
  have n5 := bl_trans n4 b5
  have O35 := O34.keep b5
  go_wp2_with fail
  refine (rises_any l A3 c3 _ (by omega) hasc O35.reads).mono ?_; rintro e w6 ⟨rfl, b6⟩
  have n6 := bl_trans n5 b6
  have O36 := O35.keep b6
  have R6 := O36.reads
  have HIN := Lib.hid hin
  have hll : (l.length : Int) ≤ 7 := by omega
  clear hasc hin CI CS O3 O4 O34 O35 O36 P2 P3 n2 n3 n4 n5
  go_wp2_with fail
  go_loopw [7] (fun i wr => ∃ k : Nat, k ≤ l.length ∧ i = .int .i64 k ∧ Below w6.heap.size w6 wr) (fun i _ => l.length - (intOf i).toNat)
  case atStart => exact ⟨0, Nat.zero_le _, rfl, Below.refl _ _⟩
  case round =>
    obtain ⟨k, hk, rfl, hL⟩ := hrel
    by_cases hlt : k < l.length
    · have hlt' : (k : Int) < (l.length : Int) := by omega
      obtain ⟨b, off, rfl, _, p1⟩ := ints_at (R6.below hL) hlt
      have hx := HIN.out l[k] (List.getElem_mem hlt)
      have q1 : ¬ (l[k] : Int) < a := by omega
      have q2 : ¬ (s.size : Int) < (l[k] : Int) := by omega
      clear hx
      generalize (l[k] : Int) = y at p1 q1 q2
      go_wp2_with fail
      go_roundw
      case rel => exact ⟨k + 1, by omega, by go_num, hL⟩
      case measure => (simp [intOf] <;> omega)
    · obtain rfl : k = l.length := by omega
      go_wp2_with fail
      go_ret
      exact ⟨rfl, bl_trans b1 (bl_trans n6 hL)⟩

set_option maxRecDepth 100000 in
theorem FnEnds_args {H : Type} {enc : TypeId × Value → H} (W : World) (base : Nat) (args : Array Value) (ds : List (DataW H)) (p : List MemPlace)
    (hval : ∀ (j : Nat) t v, Try.f5.params[j]? = some t → args[j]? = some v → Value.okWide Try.checked.prog W .any base t v)
    (hA : DataW.TrodAll enc Try.checked.prog W 0 (fun _ => true) true Try.f5.params.toList args.toList ds p) :
    Calls Try.checked.prog 5 args W fun e W' => e = .returned (.bool true) ∧ Below W.heap.size W W' := by
  rw [Try.params5] at hA hval
  obtain ⟨v0, d0, rfl, rfl, h0⟩ := trodAll_one hA
  obtain ⟨A0, c0, bs, rfl, R, Wf, hlz⟩ := open_nums Try.underlying34 Try.underlying5 (by kernel_rfl) (hval 0 34 v0 rfl rfl) h0
  exact FnEnds_walk A0 c0 bs W R (byt_of_wf Wf)

set_option maxRecDepth 100000 in
theorem FnEnds_holds : Rows.FnEndsSaid :=
  OpenClaim.holds_of_wide 5 Try.f5 rfl rfl rfl rfl rfl rfl rfl ⟨rfl, rfl, rfl, rfl, rfl⟩ rfl rfl rfl rfl rfl (by kernel_rfl) Try.func5 (by kernel_rfl)
    (of_decide_eq_true (by kernel_rfl)) (by unfold Func.isWrapper; rw [if_neg (of_decide_eq_false (by kernel_rfl))]; exact ⟨rfl, rfl⟩)
    (fun os started H enc _ => law_lift 5 Try.f5 Rows.fnEndsSpec 4 own laidOut started (by kernel_rfl) Try.func5 (by kernel_rfl) rfl (by kernel_rfl) Try.underlying4
      (fun ds h => by
        have hl : ds.length = 1 := h.trans (by kernel_rfl)
        obtain ⟨d, rfl⟩ := len1 hl
        rfl)
      (ChangeSpec.witness6 (enc := enc) (C := Try.checked) false ⟨#[], #[.slice none 0 0], []⟩ 8 (by kernel_rfl) (by kernel_rfl) (by kernel_rfl) (by kernel_rfl))
      FnEnds_args)
#print axioms FnEnds_holds

end Go.Proofs.Ytdfcgnbklnceiaa
