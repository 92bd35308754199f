/- Walks over numbers as bytes, with a sign: PutS, the program's and the reference's. No condition on the number; lengths are at most 2 to the 29th. -/
import Derived.Test.YtalnkdbmbjplpaaDoorNumU
namespace Go.Proofs.YtalnkdbmbjplpaaDoor
open Go.RowKit

/-- The bytes of a number with its sign: seven bits a byte. -/
def sBf : Nat → Int → List Int
  | 0, n => [n % 128]
  | f + 1, n => if -64 ≤ n ∧ n < 64 then [n % 128] else (n % 128 + 128) :: sBf f (n / 128)
def sB (n : Int) : List Int := sBf 4 (wrap32 n)
theorem sBf_done (f : Nat) (n : Int) (h0 : -64 ≤ n) (h : n < 64) : sBf f n = [n % 128] := by cases f <;> simp [sBf, h0, h]
theorem sBf_more (f : Nat) (n : Int) (h : n < -64 ∨ 64 ≤ n) : sBf (f + 1) n = (n % 128 + 128) :: sBf f (n / 128) := by rw [sBf, if_neg (by omega)]

def SInv (T : List Int) (L : Nat) (m : Int) (ys : List Int) : Prop := ∃ f : Nat, f ≤ 4 ∧ -(64 * 128 ^ f) ≤ m ∧ m < 64 * 128 ^ f ∧ Byt ys ∧ ys ++ sBf f m = T ∧ ys.length + f ≤ L + 4
theorem SInv.start (zs : List Int) (n : Int) (hZ : Byt zs) : SInv (zs ++ sB n) zs.length (wrap32 n) zs := by
  have := wrap32_bd n
  exact ⟨4, by omega, by simp; omega, by simp; omega, hZ, rfl, by omega⟩
theorem SInv.done {T : List Int} {L : Nat} {m : Int} {ys : List Int} (h : SInv T L m ys) (h0 : -64 ≤ m) (hm : m < 64) : ys ++ [m % 128] = T ∧ Byt (ys ++ [m % 128]) := by
  obtain ⟨f, hf, _, _, hZ, hT, _⟩ := h
  rw [sBf_done f m h0 hm] at hT
  exact ⟨hT, hZ.snoc (by omega) (by omega)⟩
theorem SInv.more {T : List Int} {L : Nat} {m : Int} {ys : List Int} (h : SInv T L m ys) (hm : m < -64 ∨ 64 ≤ m) : SInv T L (m / 128) (ys ++ [m % 128 + 128]) := by
  obtain ⟨f, hf, h0, h1, hZ, hT, hL⟩ := h
  cases f with
  | zero => simp at h0 h1; omega
  | succ f =>
    rw [sBf_more f m hm] at hT
    rw [Int.pow_succ] at h0 h1
    have a1 : -(64 * 128 ^ f) ≤ m / 128 := by
      generalize (128 : Int) ^ f = p at *
      omega
    have a2 : m / 128 < 64 * 128 ^ f := by
      generalize (128 : Int) ^ f = p at *
      omega
    exact ⟨f, by omega, a1, a2, hZ.snoc (by omega) (by omega), by rw [← hT]; simp, by simp; omega⟩
theorem SInv.bd {T : List Int} {L : Nat} {m : Int} {ys : List Int} (h : SInv T L m ys) : -17179869184 ≤ m ∧ m ≤ 17179869184 ∧ ys.length ≤ L + 4 := by
  obtain ⟨f, hf, h0, h1, _, _, hL⟩ := h
  have : f = 0 ∨ f = 1 ∨ f = 2 ∨ f = 3 ∨ f = 4 := by omega
  refine ⟨?_, ?_, by omega⟩ <;> rcases this with rfl | rfl | rfl | rfl | rfl <;> simp at h0 h1 <;> omega

set_option maxHeartbeats 4000000 in
theorem iPutS (A : Option Addr) (c : Nat) (n : Int) (zs : List Int) (w : World) (hR : Reads w w.heap.size 1 A zs.length (u8s zs)) (hZ : Byt zs) (hn : zs.length ≤ 536870912) :
    Calls Tryd.prog 21 #[.slice A zs.length c, .int .i64 n] w fun e w' => RetB (fun ys => zs ++ sB n = ys) w e w' ∧ Below w.heap.size w w' := by
  have hn' : (zs.length : Int) ≤ 536870912 := by omega
  obtain ⟨i0, hi, hz0, hz1, hz2⟩ := info_parts info_u8
  have HU := SInv.start zs n hZ
  generalize zs ++ sB n = T at *
  go_enter Tryd.func21, Tryd.ntmps21
  go_wp2_with (at_builtin; refine wpList_append_any _ rfl _ _ 22 rfl w.heap.size 5 i0 (.int .u8 0) 1 1 Tryd.underlying22 hi hz0 hz1 hz2 rfl (by decide) _ 0 [] rfl (World.ownsRow_nil _ _ _ _) w.heap.size _ zs.length c (u8s zs) rfl hR (u8s_mem zs) (by unfold maxLen; omega) (by omega) (Nat.le_refl _) ?_)
  intro v1 w1 hO1 hg1 _
  have hL1 : Below w.heap.size w w1 := (Below.refl _ _).grown hg1 (Nat.le_refl _) (fun k hk => by simp [Value.ownBlock] at hk)
  clear hg1
  go_wp2_with fail
  refine (iWrap n _).mono ?_; rintro e w2 ⟨rfl, rfl⟩
  generalize wrap32 n = m at *
  go_wp2_with fail
  go_loopw [1, 5] (fun nv v wr => ∃ (m : Int) (ys : List Int), nv = .int .i64 m ∧ SInv T zs.length m ys ∧ wr.ownsRow w.heap.size 5 1 v ys.length (u8s ys) ∧ Below w.heap.size w wr) (fun nv _ _ => (intOf nv).natAbs)
  case atStart => exact ⟨m, zs, rfl, HU, hO1, hL1⟩
  case round =>
    obtain ⟨m, ys, rfl, hU, hO, hL⟩ := hrel
    obtain ⟨hm0, hm1, hyl⟩ := hU.bd
    have hpos := hL.size
    have hand := i64_and127 m
    by_cases c1 : 0 ≤ m
    · by_cases c2 : m < 64
      · have HN := Lib.hid (hU.done (by omega) (by omega))
        clear hU
        go_wp2_with (at_builtin; refine wpList_push rfl _ _ 22 rfl w.heap.size 5 i0 (.int .u8 0) 1 1 Tryd.underlying22 hi hz0 hz1 hz2 rfl (by decide) _ _ _ rfl hO _ rfl rfl rfl (by omega) (by omega) hpos ?_)
        intro v2 w2 hO2 hg2
        go_wp2_with fail
        go_ret
        exact ⟨⟨v2, ys ++ [m % 128], rfl, HN.out.1.symm, HN.out.2, Row.mk (by rw [← u8s_snoc, List.length_append]; exact hO2)⟩, bl_grown hL hO hg2⟩
      · by_cases c3 : m < 128
        · have HN := Lib.hid (hU.more (by omega))
          clear hU
          go_wp2_with (at_builtin; refine wpList_push rfl _ _ 22 rfl w.heap.size 5 i0 (.int .u8 0) 1 1 Tryd.underlying22 hi hz0 hz1 hz2 rfl (by decide) _ _ _ rfl hO _ rfl rfl rfl (by omega) (by omega) hpos ?_)
          intro v2 w2 hO2 hg2
          go_wp2_with fail
          go_roundw
          case rel => exact ⟨m / 128, ys ++ [m % 128 + 128], by go_num, HN.out, by rw [← u8s_snoc, List.length_append]; exact hO2, bl_grown hL hO hg2⟩
          case measure => simp [intOf]; omega
        · have HN := Lib.hid (hU.more (by omega))
          clear hU
          go_wp2_with (at_builtin; refine wpList_push rfl _ _ 22 rfl w.heap.size 5 i0 (.int .u8 0) 1 1 Tryd.underlying22 hi hz0 hz1 hz2 rfl (by decide) _ _ _ rfl hO _ rfl rfl rfl (by omega) (by omega) hpos ?_)
          intro v2 w2 hO2 hg2
          go_wp2_with fail
          go_roundw
          case rel => exact ⟨m / 128, ys ++ [m % 128 + 128], by go_num, HN.out, by rw [← u8s_snoc, List.length_append]; exact hO2, bl_grown hL hO hg2⟩
          case measure => simp [intOf]; omega
    · by_cases c2 : -64 ≤ m
      · have HN := Lib.hid (hU.done (by omega) (by omega))
        clear hU
        go_wp2_with (at_builtin; refine wpList_push rfl _ _ 22 rfl w.heap.size 5 i0 (.int .u8 0) 1 1 Tryd.underlying22 hi hz0 hz1 hz2 rfl (by decide) _ _ _ rfl hO _ rfl rfl rfl (by omega) (by omega) hpos ?_)
        intro v2 w2 hO2 hg2
        go_wp2_with fail
        go_ret
        exact ⟨⟨v2, ys ++ [m % 128], rfl, HN.out.1.symm, HN.out.2, Row.mk (by rw [← u8s_snoc, List.length_append]; exact hO2)⟩, bl_grown hL hO hg2⟩
      · by_cases c3 : -128 ≤ m
        · have HN := Lib.hid (hU.more (by omega))
          clear hU
          go_wp2_with (at_builtin; refine wpList_push rfl _ _ 22 rfl w.heap.size 5 i0 (.int .u8 0) 1 1 Tryd.underlying22 hi hz0 hz1 hz2 rfl (by decide) _ _ _ rfl hO _ rfl rfl rfl (by omega) (by omega) hpos ?_)
          intro v2 w2 hO2 hg2
          go_wp2_with fail
          go_roundw
          case rel => exact ⟨m / 128, ys ++ [m % 128 + 128], by go_num, HN.out, by rw [← u8s_snoc, List.length_append]; exact hO2, bl_grown hL hO hg2⟩
          case measure => simp [intOf]; omega
        · have HN := Lib.hid (hU.more (by omega))
          clear hU
          go_wp2_with (at_builtin; refine wpList_push rfl _ _ 22 rfl w.heap.size 5 i0 (.int .u8 0) 1 1 Tryd.underlying22 hi hz0 hz1 hz2 rfl (by decide) _ _ _ rfl hO _ rfl rfl rfl (by omega) (by omega) hpos ?_)
          intro v2 w2 hO2 hg2
          go_wp2_with fail
          go_roundw
          case rel => exact ⟨m / 128, ys ++ [m % 128 + 128], by go_num, HN.out, by rw [← u8s_snoc, List.length_append]; exact hO2, bl_grown hL hO hg2⟩
          case measure => simp [intOf]; omega

set_option maxHeartbeats 4000000 in
theorem sPutS (A : Option Addr) (c : Nat) (n : Int) (zs : List Int) (w : World) (hR : Reads w w.heap.size 1 A zs.length (u8s zs)) (hZ : Byt zs) (hn : zs.length ≤ 536870912) :
    Calls Tryd.prog 43 #[.slice A zs.length c, .int .i64 n] w fun e w' => RetB (fun ys => zs ++ sB n = ys) w e w' ∧ Below w.heap.size w w' := by
  have hn' : (zs.length : Int) ≤ 536870912 := by omega
  obtain ⟨i0, hi, hz0, hz1, hz2⟩ := info_parts info_u8
  have HU := SInv.start zs n hZ
  generalize zs ++ sB n = T at *
  have RE := World.ownsRow_made (base := w.heap.size) (size := 1) (e := 5) w #[] 0 (Nat.le_refl _) (by simp [maxLen]) (by simp)
  have hR1 := hR.alloc (Nat.le_refl _) (.cells #[] 5)
  go_enter Tryd.func43, Tryd.ntmps43
  go_wp2_with (at_builtin; refine wpList_append_any _ rfl _ _ 22 rfl w.heap.size 5 i0 (.int .u8 0) 1 1 Tryd.underlying22 hi hz0 hz1 hz2 rfl (by decide) _ 0 [] rfl RE w.heap.size _ zs.length c (u8s zs) rfl hR1 (u8s_mem zs) (by unfold maxLen; omega) (by omega) (by simp) ?_)
  intro v1 w1 hO1 hg1 _
  have hL1 : Below w.heap.size w w1 := bl_grown (bl_alloc (Below.refl _ _) _) RE hg1
  clear hg1 RE hR1
  go_wp2_with fail
  refine (sWrap n _).mono ?_; rintro e w2 ⟨rfl, rfl⟩
  generalize wrap32 n = m at *
  go_wp2_with fail
  go_loopw [1, 5] (fun nv v wr => ∃ (m : Int) (ys : List Int), nv = .int .i64 m ∧ SInv T zs.length m ys ∧ wr.ownsRow w.heap.size 5 1 v ys.length (u8s ys) ∧ Below w.heap.size w wr) (fun nv _ _ => (intOf nv).natAbs)
  case atStart => exact ⟨m, zs, rfl, HU, hO1, hL1⟩
  case round =>
    obtain ⟨m, ys, rfl, hU, hO, hL⟩ := hrel
    obtain ⟨hm0, hm1, hyl⟩ := hU.bd
    have hpos := hL.size
    by_cases c1 : m < -64
    · have hor : bits .or .i64 (bits .and .i64 m 127) 128 = m % 128 + 128 := by rw [i64_and127]; exact or_128 _ (by omega) (by omega)
      have HN := Lib.hid (hU.more (by omega))
      clear hU
      go_wp2_with (at_builtin; refine wpList_push rfl _ _ 22 rfl w.heap.size 5 i0 (.int .u8 0) 1 1 Tryd.underlying22 hi hz0 hz1 hz2 rfl (by decide) _ _ _ rfl hO _ rfl rfl rfl (by omega) (by omega) hpos ?_)
      intro v2 w2 hO2 hg2
      go_wp2_with fail
      go_roundw
      case rel => exact ⟨m / 128, ys ++ [m % 128 + 128], by go_num, HN.out, by rw [← u8s_snoc, List.length_append]; exact hO2, bl_grown hL hO hg2⟩
      case measure => simp [intOf]; omega
    · by_cases c2 : 63 < m
      · have hor : bits .or .i64 (bits .and .i64 m 127) 128 = m % 128 + 128 := by rw [i64_and127]; exact or_128 _ (by omega) (by omega)
        have HN := Lib.hid (hU.more (by omega))
        clear hU
        go_wp2_with (at_builtin; refine wpList_push rfl _ _ 22 rfl w.heap.size 5 i0 (.int .u8 0) 1 1 Tryd.underlying22 hi hz0 hz1 hz2 rfl (by decide) _ _ _ rfl hO _ rfl rfl rfl (by omega) (by omega) hpos ?_)
        intro v2 w2 hO2 hg2
        go_wp2_with fail
        go_roundw
        case rel => exact ⟨m / 128, ys ++ [m % 128 + 128], by go_num, HN.out, by rw [← u8s_snoc, List.length_append]; exact hO2, bl_grown hL hO hg2⟩
        case measure => simp [intOf]; omega
      · have hand := i64_and127 m
        have HN := Lib.hid (hU.done (by omega) (by omega))
        clear hU
        go_wp2_with (at_builtin; refine wpList_push rfl _ _ 22 rfl w.heap.size 5 i0 (.int .u8 0) 1 1 Tryd.underlying22 hi hz0 hz1 hz2 rfl (by decide) _ _ _ rfl hO _ rfl rfl rfl (by omega) (by omega) hpos ?_)
        intro v2 w2 hO2 hg2
        go_wp2_with fail
        go_ret
        exact ⟨⟨v2, ys ++ [m % 128], rfl, HN.out.1.symm, HN.out.2, Row.mk (by rw [← u8s_snoc, List.length_append]; exact hO2)⟩, bl_grown hL hO hg2⟩

end Go.Proofs.YtalnkdbmbjplpaaDoor
