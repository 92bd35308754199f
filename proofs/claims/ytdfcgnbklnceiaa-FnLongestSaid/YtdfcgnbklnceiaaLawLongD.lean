/- FnLongest: what is longest in a drawn text begins at the first place that has an end, and ends at its last one. No condition. -/
import Derived.Test.YtdfcgnbklnceiaaLift
import Derived.Test.YtdfcgnbklnceiaaOpenB
import Derived.Test.YtdfcgnbklnceiaaRexG
import Derived.Test.YtdfcgnbklnceiaaBig
import Derived.Test.YtdfcgnbklnceiaaEndsL
namespace Go.Proofs.Ytdfcgnbklnceiaa
open Go.ChangeShapes Go.WideShapes Go.ChangeAt Go.RowKit
open Go.ChangeMaps (open_string shut_string)

theorem three_of : ∀ {fr : Fr (Int × ByteArray)}, FrOk qThree fr → FrOk qSmall fr
  | .nil, _ => trivial
  | .cons _ _ _, h => ⟨Nat.le_trans h.1 (by decide), h.2.1, three_of h.2.2.1, three_of h.2.2.2⟩
theorem wt_three : ∀ {fr : Fr (Int × ByteArray)}, FrOk qThree fr → wt gRex fr ≤ 4 * fr.size
  | .nil, _ => Nat.le_refl _
  | .cons a k r, h => by
    have h1 := wt_three h.2.2.1
    have h2 := wt_three h.2.2.2
    have h3 : a.2.size ≤ 3 := h.1
    simp only [wt, gRex, Fr.size]
    omega

theorem long_ends (zk : Int) (zs : ByteArray) (kids : Fr (Int × ByteArray)) (s : ByteArray) (hs : s.size ≤ 6) :
    (∀ k : Nat, k ≤ s.size → (∀ j : Nat, j < k → (endsB zk zs kids s j).length = 0) → (endsB zk zs kids s k).length ≠ 0 → longO zk zs kids s = some (k, (endsB zk zs kids s k).getLastD 0)) ∧
    ((∀ k : Nat, k ≤ s.size → (endsB zk zs kids s k).length = 0) → longO zk zs kids s = none) := by
  by_cases hb : rexB zk zs kids = true
  · have he : ∀ k : Nat, k ≤ s.size → endsB zk zs kids s k = rowI (endV zk zs kids s k) (s.size + 1) := fun k hk => endsB_yes hb (by omega) hk
    rw [longO_yes hb (by omega)]
    refine ⟨fun k hk h1 h2 => ?_, fun h => longB_none fun i hi => by rw [← he i (by omega)]; exact h i (by omega)⟩
    rw [he k hk] at h2 ⊢
    exact longB_some (by omega) (fun i hi => by rw [← he i (by omega)]; exact h1 i hi) h2
  · have he : ∀ k : Int, endsB zk zs kids s k = [] := fun k => endsB_no fun h => hb h.1
    refine ⟨fun k _ _ h2 => absurd (by rw [he]; rfl) h2, fun _ => longO_no fun h => hb h.1⟩
theorem ends_len (zk : Int) (zs : ByteArray) (kids : Fr (Int × ByteArray)) (s : ByteArray) (a : Int) : (endsB zk zs kids s a).length ≤ s.size + 1 := by
  unfold endsB
  split
  · exact rowI_len _ _
  · exact Nat.zero_le _

set_option maxRecDepth 20000 in
set_option maxHeartbeats 8000000 in
theorem FnLongest_walk (A0 : Option Addr) (c0 : Nat) (bs : List Int) (w : World) (hR : Reads w w.heap.size 1 A0 bs.length (u8s bs)) (hZ : Byt bs) :
    Calls Try.prog 6 #[.slice A0 bs.length c0] w fun e w' => e = .returned (.bool true) ∧ Below w.heap.size w w' := by
  by_cases hn : bs.length ≤ 1048576
  case neg =>
    have hgt : (1048576 : Int) < (bs.length : Int) := by omega
    go_enter Try.func6, Try.ntmps6
    go_wp2_with fail
    refine (big_any _ _ _ _).mono ?_; rintro e w1 ⟨rfl, rfl⟩
    go_wp2_with fail
    go_ret
    exact ⟨rfl, Below.refl _ _⟩
  have hng : ¬ (1048576 : Int) < (bs.length : Int) := by omega
  go_enter Try.func6, Try.ntmps6
  go_wp2_with fail
  refine (big_any _ _ _ _).mono ?_; rintro e w1 ⟨rfl, rfl⟩
  go_wp2_with fail
  refine (dLongest A0 bs.length c0 bs _ hR hZ hn).mono ?_; rintro e w1 ⟨⟨zk, zs, kids, A, c, s, rfl, hs, hS1, hsm⟩, b1⟩
  have hks : kids.size ≤ 1048576 := by have := hsm.2.2; omega
  have hzs : zs.size ≤ 1048576 := by have := hsm.1; omega
  have hq3 : FrOk qSmall kids := three_of hsm.2.1
  have hwt : zs.size + wt gRex kids ≤ 1048576 := by have h1 := wt_three hsm.2.1; have h2 := hsm.2.2; have h3 := hsm.1; omega
  have hss : s.size ≤ 1048576 := by omega
  have HL := Lib.hid (long_ends zk zs kids s hs)
  have hLn := b1.size
  go_wp2_with fail
  have P2 := Blk.new w1 30 #[.int .i64 zk, .string zs, .slice A kids.len c]
  have hSr := Lib.hid fun (x : World) (hP : Blk x w1.heap.size 30 #[.int .i64 zk, .string zs, .slice A kids.len c]) (hL : Below w1.heap.size w1 x) => (hS1.below hL (Nat.le_refl _)).more (lo' := 0) (hi' := x.heap.size) (Nat.zero_le _) (Nat.le_of_lt hP.lt)
  have n2 := bl_alloc (Below.refl w1.heap.size w1) (.cells #[.int .i64 zk, .string zs, .slice A kids.len c] 30)
  have CL := Lib.hid fun w h => iLongest zk zs kids A c s w hks hzs hq3 hwt hss h
  have CM := Lib.hid fun w h => iMatches zk zs kids A c s w hks hzs hq3 hwt hss h
  have CS := Lib.hid fun w h => sMatches zk zs kids A c s w hks hzs hq3 hwt hss h
  obtain ⟨X, hX⟩ : ∃ X, longO zk zs kids s = X := ⟨_, rfl⟩
  rw [hX] at HL CL CM CS
  clear hX hS1
  generalize w1.alloc (.cells #[.int .i64 zk, .string zs, .slice A kids.len c] 30) = w2 at P2 n2 ⊢
  refine (CL.out _ (hSr.out _ P2 n2)).mono ?_; rintro e w3 ⟨rfl, b3⟩
  have P3 := P2.keep b3
  have n3 := bl_trans n2 b3
  have cP := P3.cell
  cases X with
  | none =>
    unfold longA
    go_wp2_with fail
    clear cP
    refine (CM.out _ (hSr.out _ P3 n3)).mono ?_; rintro e w4 ⟨rfl, b4⟩
    have P4' := P3.keep b4
    have n4 := bl_trans n3 b4
    have cP := P4'.cell
    go_wp2_with fail
    clear cP
    refine (CS.out _ (hSr.out _ P4' n4)).mono ?_; rintro e w5 ⟨rfl, b5⟩
    have L4 := bl_trans n4 b5
    have P4 := P4'.keep b5
    clear P3 P4' n4 n3 b3 b4 b5 CL CM CS P2 n2
    have cb := P4.cell
    go_wp2_with fail
    clear cb
    go_loopw [8] (fun i wr => ∃ k : Nat, k ≤ s.size + 1 ∧ i = .int .i64 k ∧ Hid (∀ j : Nat, j < k → (endsB zk zs kids s j).length = 0) ∧ Blk wr w1.heap.size 30 #[.int .i64 zk, .string zs, .slice A kids.len c] ∧ Below w1.heap.size w1 wr) (fun i _ => s.size + 1 - (intOf i).toNat)
    case atStart => exact ⟨0, Nat.zero_le _, rfl, fun j hj => absurd hj (Nat.not_lt_zero _), P4, L4⟩
    case round =>
      clear P4 L4
      obtain ⟨k, hk, rfl, H, hP, hL⟩ := hrel
      have pP := hP.cell
      by_cases hle : k ≤ s.size
      · have hle' : (k : Int) ≤ (s.size : Int) := by omega
        have CE := Lib.hid (iEnds zk zs kids A c s k wr hks hzs hq3 hwt hss (hSr.out wr hP hL))
        have hel := ends_len zk zs kids s k
        go_wp2_with fail
        refine CE.out.mono ?_; rintro e w6 ⟨⟨v, rfl, hO⟩, b6⟩
        have L6 := bl_trans hL b6
        have P6 := hP.keep b6
        have hone := HL.out.1 k hle H.out
        have hget := fun h => last_at (l := endsB zk zs kids s k) h
        obtain ⟨X, hX⟩ : ∃ X, endsB zk zs kids s k = X := ⟨_, rfl⟩
        rw [hX] at hO hel hone hget
        have HX := Lib.hid hX
        clear hX pP CE
        by_cases h0 : X.length = 0
        · obtain rfl : X = [] := List.eq_nil_of_length_eq_zero h0
          have HN := Lib.hid (show ∀ j : Nat, j < k + 1 → (endsB zk zs kids s j).length = 0 from fun j hj => by
            rcases Nat.lt_or_ge j k with h | h
            · exact H.out j h
            · obtain rfl : j = k := by omega
              rw [HX.out]; rfl)
          clear hone hget h0
          obtain ⟨Av, cv, rfl⟩ := hO.form
          go_wp2_with fail
          go_roundw
          case rel => exact ⟨k + 1, by omega, by go_num, HN, P6, L6⟩
          case measure => (simp [intOf] <;> omega)
        · cases hone h0
      · have hgt : ¬ (k : Int) ≤ (s.size : Int) := by omega
        go_wp2_with fail
        go_ret
        exact ⟨rfl, bl_trans b1 hL⟩
  | some x =>
    obtain ⟨xa, xb⟩ := x
    unfold longA
    go_wp2_with fail
    clear cP
    refine (CM.out _ (hSr.out _ P3 n3)).mono ?_; rintro e w4 ⟨rfl, b4⟩
    have P4' := P3.keep b4
    have n4 := bl_trans n3 b4
    have cP := P4'.cell
    go_wp2_with fail
    clear cP
    refine (CS.out _ (hSr.out _ P4' n4)).mono ?_; rintro e w5 ⟨rfl, b5⟩
    have L4 := bl_trans n4 b5
    have P4 := P4'.keep b5
    clear P3 P4' n4 n3 b3 b4 b5 CL CM CS P2 n2
    have cb := P4.cell
    go_wp2_with fail
    clear cb
    go_loopw [8] (fun i wr => ∃ k : Nat, k ≤ s.size + 1 ∧ i = .int .i64 k ∧ Hid (∀ j : Nat, j < k → (endsB zk zs kids s j).length = 0) ∧ Blk wr w1.heap.size 30 #[.int .i64 zk, .string zs, .slice A kids.len c] ∧ Below w1.heap.size w1 wr) (fun i _ => s.size + 1 - (intOf i).toNat)
    case atStart => exact ⟨0, Nat.zero_le _, rfl, fun j hj => absurd hj (Nat.not_lt_zero _), P4, L4⟩
    case round =>
      clear P4 L4
      obtain ⟨k, hk, rfl, H, hP, hL⟩ := hrel
      have pP := hP.cell
      by_cases hle : k ≤ s.size
      · have hle' : (k : Int) ≤ (s.size : Int) := by omega
        have CE := Lib.hid (iEnds zk zs kids A c s k wr hks hzs hq3 hwt hss (hSr.out wr hP hL))
        have hel := ends_len zk zs kids s k
        go_wp2_with fail
        refine CE.out.mono ?_; rintro e w6 ⟨⟨v, rfl, hO⟩, b6⟩
        have L6 := bl_trans hL b6
        have P6 := hP.keep b6
        have hone := HL.out.1 k hle H.out
        have hget := fun h => last_at (l := endsB zk zs kids s k) h
        obtain ⟨X, hX⟩ : ∃ X, endsB zk zs kids s k = X := ⟨_, rfl⟩
        rw [hX] at hO hel hone hget
        have HX := Lib.hid hX
        clear hX pP CE
        by_cases h0 : X.length = 0
        · obtain rfl : X = [] := List.eq_nil_of_length_eq_zero h0
          have HN := Lib.hid (show ∀ j : Nat, j < k + 1 → (endsB zk zs kids s j).length = 0 from fun j hj => by
            rcases Nat.lt_or_ge j k with h | h
            · exact H.out j h
            · obtain rfl : j = k := by omega
              rw [HX.out]; rfl)
          clear hone hget h0
          obtain ⟨Av, cv, rfl⟩ := hO.form
          go_wp2_with fail
          go_roundw
          case rel => exact ⟨k + 1, by omega, by go_num, HN, P6, L6⟩
          case measure => (simp [intOf] <;> omega)
        · have he := hone h0
          injection he with he
          injection he with he1 he2
          have hg9 := hget h0
          rw [← he2] at hg9
          have HE1 := Lib.hid he1
          clear hone hget he2 h0
          have hpos : 0 < X.length := by rcases Nat.eq_zero_or_pos X.length with h | h; (obtain rfl := List.eq_nil_of_length_eq_zero h; simp at hg9); exact h
          have hpos' : (0 : Int) < (X.length : Int) := by omega
          have h63 : (X.length : Int) ≤ 1048577 := by omega
          obtain ⟨Av, cv, rfl⟩ := hO.form
          obtain ⟨gv, rfl, _, _⟩ := own_blk hO.1 hpos
          have pc : w6.cell? ⟨gv, X.length - 1, none⟩ = some (.int .i64 (xb : Int)) := by
            rw [hO.1.cellAt _ (by omega)]
            unfold ints
            rw [List.getElem?_map, hg9]
            rfl
          have ewl : IntKind.i64.wrap ((X.length : Int) - 1) = (X.length : Int) - 1 := IntWalk.i64_in _ (by omega)
          have el1 : ((X.length : Int) - 1).toNat = X.length - 1 := by omega
          have el2 : 0 ≤ (X.length : Int) - 1 := by omega
          have el3 : (X.length : Int) - 1 < (X.length : Int) := by omega
          have el4 : (1 : Int) ≤ (X.length : Int) := by omega
          have el5 : 1 ≤ X.length := by omega
          obtain rfl : xa = k := he1
          clear hg9
          go_wp2_with fail
          go_ret
          exact ⟨rfl, bl_trans b1 L6⟩
      · have hone := HL.out.2 (fun j hj => H.out j (by omega))
        cases hone

set_option maxRecDepth 100000 in
theorem FnLongest_args {H : Type} {enc : TypeId × Value → H} (W : World) (base : Nat) (args : Array Value) (ds : List (DataW H)) (p : List MemPlace)
    (hval : ∀ (j : Nat) t v, Try.f6.params[j]? = some t → args[j]? = some v → Value.okWide Try.checked.prog W .any base t v)
    (hA : DataW.TrodAll enc Try.checked.prog W 0 (fun _ => true) true Try.f6.params.toList args.toList ds p) :
    Calls Try.checked.prog 6 args W fun e W' => e = .returned (.bool true) ∧ Below W.heap.size W W' := by
  rw [Try.params6] at hA hval
  obtain ⟨v0, d0, rfl, rfl, h0⟩ := trodAll_one hA
  obtain ⟨A0, c0, bs, rfl, R, Wf, hlz⟩ := open_nums Try.underlying34 Try.underlying5 (by kernel_rfl) (hval 0 34 v0 rfl rfl) h0
  exact FnLongest_walk A0 c0 bs W R (byt_of_wf Wf)

set_option maxRecDepth 100000 in
theorem FnLongest_holds : Rows.FnLongestSaid :=
  OpenClaim.holds_of_wide 6 Try.f6 rfl rfl rfl rfl rfl rfl rfl ⟨rfl, rfl, rfl, rfl, rfl⟩ rfl rfl rfl rfl rfl (by kernel_rfl) Try.func6 (by kernel_rfl)
    (of_decide_eq_true (by kernel_rfl)) (by unfold Func.isWrapper; rw [if_neg (of_decide_eq_false (by kernel_rfl))]; exact ⟨rfl, rfl⟩)
    (fun os started H enc _ => law_lift 6 Try.f6 Rows.fnLongestSpec 4 own laidOut started (by kernel_rfl) Try.func6 (by kernel_rfl) rfl (by kernel_rfl) Try.underlying4
      (fun ds h => by
        have hl : ds.length = 1 := h.trans (by kernel_rfl)
        obtain ⟨d, rfl⟩ := len1 hl
        rfl)
      (ChangeSpec.witness6 (enc := enc) (C := Try.checked) false ⟨#[], #[.slice none 0 0], []⟩ 8 (by kernel_rfl) (by kernel_rfl) (by kernel_rfl) (by kernel_rfl))
      FnLongest_args)
#print axioms FnLongest_holds

end Go.Proofs.Ytdfcgnbklnceiaa
