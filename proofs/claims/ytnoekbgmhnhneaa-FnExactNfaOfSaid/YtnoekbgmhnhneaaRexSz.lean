/- Walks over the laws' szRexS and szRex: what is left behind a row's weight. -/
import Derived.Test.YtnoekbgmhnhneaaRexW
namespace Go.Proofs.Ytnoekbgmhnhneaa
open Go.RowKit

set_option maxHeartbeats 1000000 in
theorem szRex_of (zk : Int) (zs : ByteArray) (kids : Fr (Int × ByteArray)) (A : Option Addr) (c : Nat) (left : Int) (w : World) (hq : zs.size ≤ 9223372036854775807) (h0 : 0 ≤ left) (h1 : left ≤ 1048576) (hS : Sl rexC w 0 w.heap.size A kids)
    (I : ∀ w' left, 0 ≤ left → left ≤ 1048576 → Sl rexC w' 0 w'.heap.size A kids → Calls Try.prog 49 #[.slice A kids.len c, .int .i64 left] w' fun e w'' => e = .returned (.int .i64 (left_ left (wt gRex kids))) ∧ Below w'.heap.size w' w'') :
    Calls Try.prog 19 #[.agg #[.int .i64 zk, .string zs, .slice A kids.len c], .int .i64 left] w fun e w' => e = .returned (.int .i64 (left_ left (zs.size + wt gRex kids))) ∧ Below w.heap.size w w' := by
  by_cases hc : left - (zs.size : Int) < 0
  · rw [show left_ left (zs.size + wt gRex kids) = -1 by unfold left_; rw [if_pos (by omega)]]
    go_enter Try.func19, Try.ntmps19
    go_wp2_with fail
    go_ret
    exact ⟨rfl, by repeat (first | exact Below.refl _ _ | refine bl_drewN ?_ _ | refine Below.drew ?_ | refine bl_alloc ?_ _ | refine bl_set ?_ (by simp) _ | refine bl_trans ?_ (by assumption))⟩
  · have B0 := Blk.new w 40 #[.int .i64 zk, .string zs, .slice A kids.len c]
    have L0 := bl_alloc (Below.refl w.heap.size w) (.cells #[.int .i64 zk, .string zs, .slice A kids.len c] 40)
    have I0 := I _ (left - zs.size) (by omega) (by omega) ((hS.below L0 (Nat.le_refl _)).more (Nat.le_refl _) L0.size)
    have hE : left_ left (zs.size + wt gRex kids) = left_ (left - zs.size) (wt gRex kids) := by
      unfold left_
      have e : left - ((zs.size + wt gRex kids : Nat) : Int) = left - zs.size - (wt gRex kids : Nat) := by omega
      rw [e]
    rw [hE]
    have hm := fun h => (left_neg (l := left - zs.size) (n := wt gRex kids) h).1
    generalize left_ (left - zs.size) (wt gRex kids) = R at I0 hm
    have HM := Lib.hid hm
    clear hm
    have II := Lib.hid I0
    clear I0 hE
    by_cases hR : R < 0
    all_goals
      go_enter Try.func19, Try.ntmps19
      go_wp2_with fail
      refine II.out.mono ?_; rintro e w1 ⟨rfl, b1⟩
      go_wp2_with fail
      go_ret
    · exact ⟨ret_int (HM.out hR).symm, bl_trans L0 b1⟩
    · exact ⟨rfl, bl_trans L0 b1⟩

set_option maxHeartbeats 2000000 in
theorem szRexS_step (fr : Fr (Int × ByteArray)) (A : Option Addr) (c : Nat) (left : Int) (w : World) (hl : fr.len ≤ 9223372036854775807) (hq : FrOk qRex fr) (h0 : 0 ≤ left) (h1 : left ≤ 1048576) (hS : Sl rexC w 0 w.heap.size A fr)
    (ih : ∀ (kids : Fr (Int × ByteArray)), kids.size < fr.size → kids.len ≤ 9223372036854775807 → FrOk qRex kids → ∀ (A : Option Addr) (c : Nat) (left : Int) (w : World), 0 ≤ left → left ≤ 1048576 → Sl rexC w 0 w.heap.size A kids → Calls Try.prog 49 #[.slice A kids.len c, .int .i64 left] w fun e w' => e = .returned (.int .i64 (left_ left (wt gRex kids))) ∧ Below w.heap.size w w') :
    Calls Try.prog 49 #[.slice A fr.len c, .int .i64 left] w fun e w' => e = .returned (.int .i64 (left_ left (wt gRex fr))) ∧ Below w.heap.size w w' := by
  have hlw := len_wt gRex fr
  by_cases hc : left - (fr.len : Int) < 0
  · rw [left_is (by omega)]
    go_enter Try.func49, Try.ntmps49
    go_wp2_with fail
    go_ret
    exact ⟨rfl, Below.refl _ _⟩
  · obtain ⟨R, hR⟩ : ∃ R, left_ left (wt gRex fr) = R := ⟨_, rfl⟩
    rw [hR]
    have HR := Lib.hid hR
    have IH := Lib.hid ih
    have HQ := Lib.hid hq
    clear hR ih hq
    go_enter Try.func49, Try.ntmps49
    go_wp2_with fail
    go_loopw [1, 5] (fun l i wr => ∃ (k : Nat) (y : Int), k ≤ fr.len ∧ i = .int .i64 k ∧ l = .int .i64 y ∧ 0 ≤ y ∧ y ≤ 1048576 ∧ left_ (y + (fr.drop k).len) (wt gRex (fr.drop k)) = R ∧ Below w.heap.size w wr) (fun _ i _ => fr.len - (intOf i).toNat)
    case atStart => exact ⟨0, _, Nat.zero_le _, rfl, rfl, by omega, by omega, by rw [Fr.drop_zero, Int.sub_add_cancel]; exact HR.out, Below.refl _ _⟩
    case round =>
      obtain ⟨k, y, hk, rfl, rfl, hy0, hy1, hE, hL⟩ := hrel
      by_cases hlt : k < fr.len
      · obtain ⟨b, o, a, kids, A', c', rfl, hb, hd, hks, hSk, q0, q1, q2⟩ := at_Rex (hS.below hL (Nat.le_refl _)) hlt
        have hlt' : (k : Int) < (fr.len : Int) := by omega
        have hqk := FrOk.drop k HQ.out
        rw [hd] at hE hqk
        obtain ⟨hqa, hkl, hqk, _⟩ := hqk
        obtain ⟨zk, zs⟩ := a
        have hlr := len_wt gRex (fr.drop (k + 1))
        have C := szRex_of zk zs kids A' c' y wr hqa hy0 hy1 (hSk.more (Nat.le_refl _) hL.size) (fun w' left h0 h1 h => IH.out kids hks hkl hqk A' c' left w' h0 h1 h)
        simp only [Fr.len, wt, gRex] at hE
        obtain ⟨z, hz⟩ : ∃ z, left_ y (zs.size + wt gRex kids) = z := ⟨_, rfl⟩
        rw [hz] at C
        have CC := Lib.hid C
        clear C hd
        simp only at q0 q1 q2
        by_cases hs : z < 0
        · have hR1 : R = -1 := by
            rw [← hE]
            have := (left_neg (by rw [hz]; exact hs)).2
            exact left_is (by omega)
          clear hE HR hz
          subst hR1
          go_wp2_with fail
          refine CC.out.mono ?_; rintro e w1 ⟨rfl, b1⟩
          go_wp2_with fail
          go_ret
          exact ⟨rfl, bl_trans hL b1⟩
        · have hp := left_pos (by rw [hz]; exact hs)
          rw [hz] at hp
          have hR1 : left_ (z + (fr.drop (k + 1)).len) (wt gRex (fr.drop (k + 1))) = R := by
            rw [← hE]
            unfold left_
            rw [show y + (((fr.drop (k + 1)).len + 1 : Nat) : Int) - ((1 + zs.size + wt gRex kids + wt gRex (fr.drop (k + 1)) : Nat) : Int) = z + ((fr.drop (k + 1)).len : Nat) - (wt gRex (fr.drop (k + 1)) : Nat) by omega]
          have H1 := Lib.hid hR1
          have hz0 : 0 ≤ z ∧ z ≤ 1048576 := by omega
          clear hE HR hz hR1 hp
          go_wp2_with fail
          refine CC.out.mono ?_; rintro e w1 ⟨rfl, b1⟩
          go_wp2_with fail
          go_roundw
          case rel => exact ⟨k + 1, z, by omega, by go_num, rfl, by omega, by omega, H1.out, bl_trans hL b1⟩
          case measure => simp [intOf]; omega
      · obtain rfl : k = fr.len := by omega
        rw [Fr.drop_all] at hE
        have h00 : left_ (y + ((0 : Nat) : Int)) 0 = y := by unfold left_; rw [if_neg (by omega)]; omega
        have hE' : y = R := h00.symm.trans hE
        subst hE'
        clear hE HR
        go_wp2_with fail
        go_ret
        exact ⟨rfl, hL⟩
theorem szRexS_any (N : Nat) : ∀ (fr : Fr (Int × ByteArray)), fr.size ≤ N → fr.len ≤ 9223372036854775807 → FrOk qRex fr → ∀ (A : Option Addr) (c : Nat) (left : Int) (w : World), 0 ≤ left → left ≤ 1048576 → Sl rexC w 0 w.heap.size A fr →
    Calls Try.prog 49 #[.slice A fr.len c, .int .i64 left] w fun e w' => e = .returned (.int .i64 (left_ left (wt gRex fr))) ∧ Below w.heap.size w w' := by
  induction N with
  | zero =>
    intro fr hs hl hq A c left w h0 h1 hS
    obtain rfl := Fr.size_pos (Nat.le_zero.1 hs)
    exact szRexS_step .nil A c left w hl hq h0 h1 hS (fun kids h => by simp [Fr.size] at h)
  | succ N ih =>
    intro fr hs hl hq A c left w h0 h1 hS
    exact szRexS_step fr A c left w hl hq h0 h1 hS (fun kids h hl hq A c left w h0 h1 hk => ih kids (by omega) hl hq A c left w h0 h1 hk)

end Go.Proofs.Ytnoekbgmhnhneaa
