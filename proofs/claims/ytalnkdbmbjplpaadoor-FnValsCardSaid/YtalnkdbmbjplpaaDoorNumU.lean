/- Walks over numbers as bytes, without a sign: PutU, the program's and the reference's. No condition on the number; lengths are at most 2 to the 29th. -/
import Derived.Test.YtalnkdbmbjplpaaDoorWrap
import Derived.Test.YtalnkdbmbjplpaaDoorByteP
import Derived.Test.YtalnkdbmbjplpaaDoorClamp
namespace Go.Proofs.YtalnkdbmbjplpaaDoor
open Go.RowKit

/-- The bytes of a number that is not below 0: seven bits a byte. -/
def uBf : Nat → Int → List Int
  | 0, n => [n]
  | f + 1, n => if n < 128 then [n] else (n % 128 + 128) :: uBf f (n / 128)
def uB (n : Int) : List Int := uBf 4 (clampI n 0 2147483647)
theorem uBf_done (f : Nat) (n : Int) (h : n < 128) : uBf f n = [n] := by cases f <;> simp [uBf, h]
theorem uBf_more (f : Nat) (n : Int) (h : 128 ≤ n) : uBf (f + 1) n = (n % 128 + 128) :: uBf f (n / 128) := by rw [uBf, if_neg (by omega)]

theorem or_128 (y : Int) (h0 : 0 ≤ y) (h1 : y < 128) : bits .or .i64 y 128 = y + 128 := by
  obtain ⟨k, rfl⟩ := Int.eq_ofNat_of_zero_le h0
  have hk : k < 128 := by omega
  have e1 : (BitVec.ofInt 64 (k : Int)).toNat = k := by rw [BitVec.ofInt_natCast, BitVec.toNat_ofNat]; exact Nat.mod_eq_of_lt (by omega)
  have e2 : (BitVec.ofInt 64 128).toNat = 128 := by decide
  have e3 : k ||| 128 = k + 128 := by
    have := Nat.two_pow_add_eq_or_of_lt (b := k) (i := 7) (by omega) 1
    simp at this
    rw [Nat.or_comm, ← this]; omega
  show IntKind.i64.wrap ((BitVec.ofInt 64 (k : Int) ||| BitVec.ofInt 64 128).toNat : Int) = _
  rw [BitVec.toNat_or, e1, e2, e3, IntKind.wrap_i64]
  omega
theorem pow_step (f : Nat) (m : Int) (h : m < 128 ^ (f + 1 + 1)) : m / 128 < 128 ^ (f + 1) := by
  rw [Int.pow_succ] at h
  exact Int.ediv_lt_of_lt_mul (by omega) h
theorem pow_one (m : Int) (h : m < 128 ^ (0 + 1)) : m < 128 := by simpa using h

/-- What a loop over the number keeps: what is laid, and what is left to lay. -/
def UInv (T : List Int) (L : Nat) (m : Int) (ys : List Int) : Prop := ∃ f : Nat, f ≤ 4 ∧ 0 ≤ m ∧ m < 128 ^ (f + 1) ∧ Byt ys ∧ ys ++ uBf f m = T ∧ ys.length + f ≤ L + 4
theorem UInv.start (zs : List Int) (n : Int) (hZ : Byt zs) : UInv (zs ++ uB n) zs.length (clampI n 0 2147483647) zs := by
  have := clampI_bd n 0 2147483647 (by omega)
  exact ⟨4, by omega, this.1, by have := this.2; simp; omega, hZ, rfl, by omega⟩
theorem UInv.done {T : List Int} {L : Nat} {m : Int} {ys : List Int} (h : UInv T L m ys) (hm : m < 128) : ys ++ [m] = T ∧ Byt (ys ++ [m]) := by
  obtain ⟨f, hf, h0, _, hZ, hT, _⟩ := h
  rw [uBf_done f m hm] at hT
  exact ⟨hT, hZ.snoc h0 (by omega)⟩
theorem UInv.more {T : List Int} {L : Nat} {m : Int} {ys : List Int} (h : UInv T L m ys) (hm : 128 ≤ m) : UInv T L (m / 128) (ys ++ [m % 128 + 128]) := by
  obtain ⟨f, hf, h0, h1, hZ, hT, hL⟩ := h
  cases f with
  | zero => have := pow_one m h1; omega
  | succ f =>
    rw [uBf_more f m hm] at hT
    exact ⟨f, by omega, by omega, pow_step f m h1, hZ.snoc (by omega) (by omega), by rw [← hT]; simp, by simp; omega⟩
theorem UInv.bd {T : List Int} {L : Nat} {m : Int} {ys : List Int} (h : UInv T L m ys) : 0 ≤ m ∧ m ≤ 34359738367 ∧ ys.length ≤ L + 4 := by
  obtain ⟨f, hf, h0, h1, _, _, hL⟩ := h
  refine ⟨h0, ?_, by omega⟩
  have : f = 0 ∨ f = 1 ∨ f = 2 ∨ f = 3 ∨ f = 4 := by omega
  rcases this with rfl | rfl | rfl | rfl | rfl <;> simp at h1 <;> omega
theorem u8s_app (xs ys : List Int) : u8s xs ++ u8s ys = u8s (xs ++ ys) := by simp [u8s]
theorem u8s_one (zs : List Int) : (u8s zs).all Value.oneCell' = true := by simp [u8s]; intro z _; rfl
theorem u8s_mem (zs : List Int) : ∀ u ∈ u8s zs, u.oneCell' = true := fun u hu => List.all_eq_true.1 (u8s_one zs) u hu

set_option maxHeartbeats 1000000 in
theorem iPutU (A : Option Addr) (c : Nat) (n : Int) (zs : List Int) (w : World) (hR : Reads w w.heap.size 1 A zs.length (u8s zs)) (hZ : Byt zs) (hn : zs.length ≤ 536870912) :
    Calls Tryd.prog 20 #[.slice A zs.length c, .int .i64 n] w fun e w' => RetB (fun ys => zs ++ uB n = ys) w e w' ∧ Below w.heap.size w w' := by
  have hn' : (zs.length : Int) ≤ 536870912 := by omega
  obtain ⟨i0, hi, hz0, hz1, hz2⟩ := info_parts info_u8
  have HU := UInv.start zs n hZ
  go_enter Tryd.func20, Tryd.ntmps20
  go_wp2_with (at_builtin; refine wpList_append_any _ rfl _ _ 22 rfl w.heap.size 5 i0 (.int .u8 0) 1 1 Tryd.underlying22 hi hz0 hz1 hz2 rfl (by decide) _ 0 [] rfl (World.ownsRow_nil _ _ _ _) w.heap.size _ zs.length c (u8s zs) rfl hR (u8s_mem zs) (by unfold maxLen; omega) (by omega) (Nat.le_refl _) ?_)
  intro v1 w1 hO1 hg1 _
  have hL1 : Below w.heap.size w w1 := (Below.refl _ _).grown hg1 (Nat.le_refl _) (fun k hk => by simp [Value.ownBlock] at hk)
  clear hg1
  go_wp2_with fail
  refine (iClamp n 0 2147483647 _ (by omega)).mono ?_; rintro e w2 ⟨rfl, rfl⟩
  generalize clampI n 0 2147483647 = m at *
  go_wp2_with fail
  go_loopw [1, 5] (fun nv v wr => ∃ (m : Int) (ys : List Int), nv = .int .i64 m ∧ UInv (zs ++ uB n) zs.length m ys ∧ wr.ownsRow w.heap.size 5 1 v ys.length (u8s ys) ∧ Below w.heap.size w wr) (fun nv _ _ => (intOf nv).toNat)
  case atStart => exact ⟨m, zs, rfl, HU, hO1, hL1⟩
  case round =>
    obtain ⟨m, ys, rfl, hU, hO, hL⟩ := hrel
    obtain ⟨hm0, hm1, hyl⟩ := hU.bd
    have hpos := hL.size
    by_cases hlt : 128 ≤ m
    · have HN := Lib.hid (hU.more hlt)
      clear hU
      go_wp2_with (at_builtin; refine wpList_push rfl _ _ 22 rfl w.heap.size 5 i0 (.int .u8 0) 1 1 Tryd.underlying22 hi hz0 hz1 hz2 rfl (by decide) _ _ _ rfl hO _ rfl rfl rfl (by omega) (by omega) hpos ?_)
      intro v2 w2 hO2 hg2
      go_wp2_with fail
      go_roundw
      case rel => exact ⟨m / 128, ys ++ [m % 128 + 128], rfl, HN.out, by rw [← u8s_snoc, List.length_append]; exact hO2, bl_grown hL hO hg2⟩
      case measure => simp [intOf]; omega
    · have HN := Lib.hid (hU.done (by omega))
      clear hU
      go_wp2_with (at_builtin; refine wpList_push rfl _ _ 22 rfl w.heap.size 5 i0 (.int .u8 0) 1 1 Tryd.underlying22 hi hz0 hz1 hz2 rfl (by decide) _ _ _ rfl hO _ rfl rfl rfl (by omega) (by omega) hpos ?_)
      intro v2 w2 hO2 hg2
      go_wp2_with fail
      go_ret
      exact ⟨⟨v2, ys ++ [m], rfl, HN.out.1.symm, HN.out.2, Row.mk (by rw [← u8s_snoc, List.length_append]; exact hO2)⟩, bl_grown hL hO hg2⟩

theorem clampU_lo {n : Int} (h : n < 0) : clampI n 0 2147483647 = 0 := by unfold clampI; rw [if_pos h]
theorem clampU_hi {n : Int} (h : 2147483647 < n) : clampI n 0 2147483647 = 2147483647 := by unfold clampI; rw [if_neg (by omega), if_pos h]
theorem clampU_in {n : Int} (h0 : 0 ≤ n) (h : n ≤ 2147483647) : clampI n 0 2147483647 = n := by unfold clampI; rw [if_neg (by omega), if_neg (by omega)]

set_option maxHeartbeats 2000000 in
theorem sPutU (A : Option Addr) (c : Nat) (n : Int) (zs : List Int) (w : World) (hR : Reads w w.heap.size 1 A zs.length (u8s zs)) (hZ : Byt zs) (hn : zs.length ≤ 536870912) :
    Calls Tryd.prog 42 #[.slice A zs.length c, .int .i64 n] w fun e w' => RetB (fun ys => zs ++ uB n = ys) w e w' ∧ Below w.heap.size w w' := by
  have hn' : (zs.length : Int) ≤ 536870912 := by omega
  obtain ⟨i0, hi, hz0, hz1, hz2⟩ := info_parts info_u8
  obtain ⟨m, hm, HM, hcase⟩ : ∃ m : Int, UInv (zs ++ uB n) zs.length m zs ∧ (0 ≤ m ∧ m ≤ 2147483647) ∧ ((n < 0 ∧ m = 0) ∨ (2147483647 < n ∧ m = 2147483647) ∨ (0 ≤ n ∧ n ≤ 2147483647 ∧ m = n)) := by
    refine ⟨clampI n 0 2147483647, UInv.start zs n hZ, clampI_bd n 0 2147483647 (by omega), ?_⟩
    by_cases h1 : n < 0
    · exact .inl ⟨h1, clampU_lo h1⟩
    · by_cases h2 : 2147483647 < n
      · exact .inr (.inl ⟨h2, clampU_hi h2⟩)
      · exact .inr (.inr ⟨by omega, by omega, clampU_in (by omega) (by omega)⟩)
  have hT := Lib.hid hm
  clear hm
  generalize zs ++ uB n = T at *
  have RE := World.ownsRow_made (base := w.heap.size) (size := 1) (e := 5) w #[] 0 (Nat.le_refl _) (by simp [maxLen]) (by simp)
  have hR1 := hR.alloc (Nat.le_refl _) (.cells #[] 5)
  rcases hcase with ⟨h1, rfl⟩ | ⟨h1, rfl⟩ | ⟨h1, h2, rfl⟩
  all_goals
    go_enter Tryd.func42, Tryd.ntmps42
    go_wp2_with (at_builtin; refine wpList_append_any _ rfl _ _ 22 rfl w.heap.size 5 i0 (.int .u8 0) 1 1 Tryd.underlying22 hi hz0 hz1 hz2 rfl (by decide) _ 0 [] rfl RE w.heap.size _ zs.length c (u8s zs) rfl hR1 (u8s_mem zs) (by unfold maxLen; omega) (by omega) (by simp) ?_)
    intro v1 w1 hO1 hg1 _
    have hL1 : Below w.heap.size w w1 := bl_grown (bl_alloc (Below.refl _ _) _) RE hg1
    clear hg1 RE hR1
    go_wp2_with fail
    go_loopw [1, 5] (fun nv v wr => ∃ (m : Int) (ys : List Int), nv = .int .i64 m ∧ UInv T zs.length m ys ∧ wr.ownsRow w.heap.size 5 1 v ys.length (u8s ys) ∧ Below w.heap.size w wr) (fun nv _ _ => (intOf nv).toNat)
    case atStart => exact ⟨_, zs, rfl, hT.out, hO1, hL1⟩
    case round =>
      obtain ⟨m, ys, rfl, hU, hO, hL⟩ := hrel
      obtain ⟨hm0, hm1, hyl⟩ := hU.bd
      have hpos := hL.size
      by_cases hlt : 127 < m
      · have HN := Lib.hid (hU.more (by omega))
        have hor : bits .or .i64 (bits .and .i64 m 127) 128 = m % 128 + 128 := by rw [i64_and127]; exact or_128 _ (by omega) (by omega)
        clear hU
        go_wp2_with (at_builtin; refine wpList_push rfl _ _ 22 rfl w.heap.size 5 i0 (.int .u8 0) 1 1 Tryd.underlying22 hi hz0 hz1 hz2 rfl (by decide) _ _ _ rfl hO _ rfl rfl rfl (by omega) (by omega) hpos ?_)
        intro v2 w2 hO2 hg2
        go_wp2_with fail
        go_roundw
        case rel => exact ⟨m / 128, ys ++ [m % 128 + 128], rfl, HN.out, by rw [← u8s_snoc, List.length_append]; exact hO2, bl_grown hL hO hg2⟩
        case measure => simp [intOf]; omega
      · have HN := Lib.hid (hU.done (by omega))
        clear hU
        go_wp2_with (at_builtin; refine wpList_push rfl _ _ 22 rfl w.heap.size 5 i0 (.int .u8 0) 1 1 Tryd.underlying22 hi hz0 hz1 hz2 rfl (by decide) _ _ _ rfl hO _ rfl rfl rfl (by omega) (by omega) hpos ?_)
        intro v2 w2 hO2 hg2
        go_wp2_with fail
        go_ret
        exact ⟨⟨v2, ys ++ [m], rfl, HN.out.1.symm, HN.out.2, Row.mk (by rw [← u8s_snoc, List.length_append]; exact hO2)⟩, bl_grown hL hO hg2⟩

end Go.Proofs.YtalnkdbmbjplpaaDoor
