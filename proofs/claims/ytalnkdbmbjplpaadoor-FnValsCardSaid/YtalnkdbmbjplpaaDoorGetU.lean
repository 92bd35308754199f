/- Walks over GetU, the program's and the reference's. No condition on the place; lengths are at most 2 to the 29th. -/
import Derived.Test.YtalnkdbmbjplpaaDoorNumU
namespace Go.Proofs.YtalnkdbmbjplpaaDoor
open Go.RowKit

set_option maxHeartbeats 400000 in
theorem iWithin (x lo hi : Int) (w : World) :
    Calls Tryd.prog 39 #[.int .i64 x, .int .i64 lo, .int .i64 hi] w fun e w' => e = .returned (.bool (decide (lo ≤ x) && decide (x ≤ hi))) ∧ w' = w := by
  by_cases h1 : lo ≤ x
  · go_enter Tryd.func39, Tryd.ntmps39
    go_wp2_with fail
    go_ret
    exact ⟨ret_bool (by simp [h1]), rfl⟩
  · go_enter Tryd.func39, Tryd.ntmps39
    go_wp2_with fail
    go_ret
    exact ⟨ret_bool (by have : ¬ lo ≤ x := by omega
                        simp [this]), rfl⟩

/-- What is read of bytes as a number without a sign: seven bits a byte; at most five bytes. -/
def gU (zs : List Int) (a : Nat) : Nat → Nat → Int → Option (Int × Int)
  | 0, _, _ => none
  | f + 1, i, n => match zs[a + i]? with
    | none => none
    | some c =>
      if c < 128 then (if (c = 0 ∧ 0 < i) ∨ 2147483647 < n + c % 128 * 128 ^ i then none else some (n + c % 128 * 128 ^ i, (a : Int) + i + 1))
      else gU zs a f (i + 1) (n + c % 128 * 128 ^ i)
def getU (zs : List Int) (p : Int) : Option (Int × Int) := if 0 ≤ p ∧ p < zs.length then gU zs p.toNat 5 0 0 else none
/-- A number read, the place behind it, whether there is one. -/
def resP : Option (Int × Int) → Value
  | some (m, p) => .tuple #[.int .i64 m, .int .i64 p, .bool true]
  | none => .tuple #[.int .i64 0, .int .i64 0, .bool false]
theorem gU_end (zs : List Int) (a i : Nat) (n : Int) (f : Nat) (h : ¬ a + i < zs.length) : gU zs a f i n = none := by
  cases f with
  | zero => rfl
  | succ f => rw [gU, List.getElem?_eq_none (by omega)]
theorem gU_bad (zs : List Int) (a i : Nat) (n : Int) (f : Nat) (h : a + i < zs.length) (hc : zs[a + i] < 128) (hb : (zs[a + i] = 0 ∧ 0 < i) ∨ 2147483647 < n + zs[a + i] % 128 * 128 ^ i) : gU zs a (f + 1) i n = none := by
  rw [gU, List.getElem?_eq_getElem h]
  simp only [if_pos hc, if_pos hb]
theorem gU_good (zs : List Int) (a i : Nat) (n : Int) (f : Nat) (h : a + i < zs.length) (hc : zs[a + i] < 128) (hb : ¬ ((zs[a + i] = 0 ∧ 0 < i) ∨ 2147483647 < n + zs[a + i] % 128 * 128 ^ i)) :
    gU zs a (f + 1) i n = some (n + zs[a + i] % 128 * 128 ^ i, (a : Int) + i + 1) := by
  rw [gU, List.getElem?_eq_getElem h]
  simp only [if_pos hc, if_neg hb]
theorem gU_on (zs : List Int) (a i : Nat) (n : Int) (f : Nat) (h : a + i < zs.length) (hc : 128 ≤ zs[a + i]) : gU zs a (f + 1) i n = gU zs a f (i + 1) (n + zs[a + i] % 128 * 128 ^ i) := by
  rw [gU, List.getElem?_eq_getElem h]
  simp only [if_neg (show ¬ zs[a + i] < 128 by omega)]

theorem or_shift (i : Nat) (n y : Int) (h0 : 0 ≤ n) (h1 : n < 2 ^ i) (h2 : 0 ≤ y) (h3 : n + y * 2 ^ i < 9223372036854775808) : bits .or .i64 n (y * 2 ^ i) = n + y * 2 ^ i := by
  obtain ⟨b, rfl⟩ := Int.eq_ofNat_of_zero_le h0
  obtain ⟨a, rfl⟩ := Int.eq_ofNat_of_zero_le h2
  have e0 : ((a : Int) * 2 ^ i) = ((2 ^ i * a : Nat) : Int) := by rw [Int.natCast_mul, Int.mul_comm]; rfl
  have h1' : b < 2 ^ i := by have : ((2 ^ i : Nat) : Int) = (2 : Int) ^ i := by simp
                             omega
  rw [e0] at h3 ⊢
  have e1 : (BitVec.ofInt 64 (b : Int)).toNat = b := by rw [BitVec.ofInt_natCast, BitVec.toNat_ofNat]; exact Nat.mod_eq_of_lt (by omega)
  have e2 : (BitVec.ofInt 64 ((2 ^ i * a : Nat) : Int)).toNat = 2 ^ i * a := by rw [BitVec.ofInt_natCast, BitVec.toNat_ofNat]; exact Nat.mod_eq_of_lt (by omega)
  have e3 := Nat.two_pow_add_eq_or_of_lt h1' a
  show IntKind.i64.wrap ((BitVec.ofInt 64 (b : Int) ||| BitVec.ofInt 64 ((2 ^ i * a : Nat) : Int)).toNat : Int) = _
  rw [BitVec.toNat_or, e1, e2, Nat.or_comm, ← e3, IntKind.wrap_i64]
  omega

set_option maxHeartbeats 8000000 in
theorem sGetU_in (A : Option Addr) (c a : Nat) (zs : List Int) (R : Option (Int × Int)) (w : World) (hR : Reads w w.heap.size 1 A zs.length (u8s zs)) (hZ : Byt zs) (hn : zs.length ≤ 536870912) (ha : a < zs.length) (hX : gU zs a 5 0 0 = R) :
    Calls Tryd.prog 32 #[.slice A zs.length c, .int .i64 a] w fun e w' => e = .returned (resP R) ∧ w' = w := by
  have hn' : (zs.length : Int) ≤ 536870912 := by omega
  have ha' : (a : Int) < zs.length := by omega
  have HX := Lib.hid hX
  clear hX
  go_enter Tryd.func32, Tryd.ntmps32
  go_wp2_with fail
  go_loop [7, 8] (fun nv iv => ∃ (i : Nat) (n : Int), i ≤ 5 ∧ iv = .int .i64 i ∧ nv = .int .i64 n ∧ 0 ≤ n ∧ n < 128 ^ i ∧ gU zs a (5 - i) i n = R) (fun _ iv => 5 - (intOf iv).toNat)
  case atStart => exact ⟨0, 0, by omega, rfl, rfl, by omega, by simp, HX.out⟩
  case round =>
    obtain ⟨i, n, hi5, rfl, rfl, hn0, hn1, hT⟩ := hrel
    have HR := Lib.hid hT
    clear hT
    have hi : i = 0 ∨ i = 1 ∨ i = 2 ∨ i = 3 ∨ i = 4 ∨ i = 5 := by omega
    rcases hi with rfl | rfl | rfl | rfl | rfl | rfl
    · -- the byte at 0
      have hn1 : n < 1 := by simpa using hn1
      by_cases hlt : a + 0 < zs.length
      · have hz := hZ zs[a + 0] (List.getElem_mem hlt)
        obtain ⟨b, off, rfl, hb, hcell⟩ := rd_at hR hlt
        simp only [Nat.add_zero] at hcell
        have k1 := fun h1 h2 => gU_bad zs a 0 n 4 hlt h1 h2
        have k2 := fun h1 h2 => gU_good zs a 0 n 4 hlt h1 h2
        have k3 := fun h1 => gU_on zs a 0 n 4 hlt h1
        obtain ⟨hz0, hz1⟩ := hz
        generalize zs[a + 0] = z at *
        have K1 := Lib.hid k1
        have K2 := Lib.hid k2
        have K3 := Lib.hid k3
        clear k1 k2 k3
        have hlt' : (a : Int) + 0 < zs.length := by omega
        have hand := i64_and127 z
        have hor : bits .or .i64 n (z % 128) = n + z % 128 := by
          have := or_shift 0 n (z % 128) hn0 (by simp at hn1 ⊢; omega) (by omega) (by simp at hn1 ⊢; omega)
          simpa using this
        by_cases hc : z < 128
        · have hzm : z % 128 = z := by omega
          have HG := Lib.hid ((K2.out hc (by simp; omega)).symm.trans HR.out)
          clear hzm
          go_wp2_with fail
          all_goals go_ret3
          all_goals exact ⟨by rw [← HG.out]; simp [resP] <;> omega, rfl⟩
        · have HG := Lib.hid ((K3.out (by omega)).symm.trans HR.out)
          go_wp2_with fail
          go_round
          case rel => exact ⟨1, n + z % 128 * 1, by omega, by go_num, by go_num, by omega, by simp; omega, by have := HG.out; simpa using this⟩
          case measure => simp [intOf]
      · exfalso; omega
    · -- the byte at 1
      have hn1 : n < 128 := by simpa using hn1
      by_cases hlt : a + 1 < zs.length
      · have hz := hZ zs[a + 1] (List.getElem_mem hlt)
        obtain ⟨b, off, rfl, hb, hcell⟩ := rd_at hR hlt
        have k1 := fun h1 h2 => gU_bad zs a 1 n 3 hlt h1 h2
        have k2 := fun h1 h2 => gU_good zs a 1 n 3 hlt h1 h2
        have k3 := fun h1 => gU_on zs a 1 n 3 hlt h1
        obtain ⟨hz0, hz1⟩ := hz
        generalize zs[a + 1] = z at *
        have K1 := Lib.hid k1
        have K2 := Lib.hid k2
        have K3 := Lib.hid k3
        clear k1 k2 k3
        have hlt' : (a : Int) + 1 < zs.length := by omega
        have hand := i64_and127 z
        have hor : bits .or .i64 n (z % 128 * 128) = n + z % 128 * 128 := by
          have := or_shift 7 n (z % 128) hn0 (by simp at hn1 ⊢; omega) (by omega) (by simp at hn1 ⊢; omega)
          simpa using this
        by_cases hc : z < 128
        · have hzm : z % 128 = z := by omega
          by_cases h0 : z = 0
          · have HG := Lib.hid ((K1.out hc (.inl ⟨h0, by omega⟩)).symm.trans HR.out)
            subst h0
            clear hzm
            go_wp2_with fail
            go_ret3
            exact ⟨by rw [← HG.out]; rfl, rfl⟩
          · by_cases hm : 2147483647 < n + z % 128 * 128
            · have HG := Lib.hid ((K1.out hc (.inr (by simpa using hm))).symm.trans HR.out)
              clear hzm
              go_wp2_with fail
              all_goals go_ret3
              all_goals exact ⟨by rw [← HG.out]; rfl, rfl⟩
            · have HG := Lib.hid ((K2.out hc (by simp; omega)).symm.trans HR.out)
              clear hzm
              go_wp2_with fail
              go_ret3
              exact ⟨by rw [← HG.out]; simp [resP], rfl⟩
        · have HG := Lib.hid ((K3.out (by omega)).symm.trans HR.out)
          go_wp2_with fail
          go_round
          case rel => exact ⟨2, n + z % 128 * 128, by omega, by go_num, by go_num, by omega, by simp; omega, by have := HG.out; simpa using this⟩
          case measure => simp [intOf]
      · have HG := Lib.hid ((gU_end zs a 1 n 4 hlt).symm.trans HR.out)
        have hlt' : (zs.length : Int) ≤ (a : Int) + 1 := by omega
        go_wp2_with fail
        go_ret3
        exact ⟨by rw [← HG.out]; rfl, rfl⟩
    · -- the byte at 2
      have hn1 : n < 16384 := by simpa using hn1
      by_cases hlt : a + 2 < zs.length
      · have hz := hZ zs[a + 2] (List.getElem_mem hlt)
        obtain ⟨b, off, rfl, hb, hcell⟩ := rd_at hR hlt
        have k1 := fun h1 h2 => gU_bad zs a 2 n 2 hlt h1 h2
        have k2 := fun h1 h2 => gU_good zs a 2 n 2 hlt h1 h2
        have k3 := fun h1 => gU_on zs a 2 n 2 hlt h1
        obtain ⟨hz0, hz1⟩ := hz
        generalize zs[a + 2] = z at *
        have K1 := Lib.hid k1
        have K2 := Lib.hid k2
        have K3 := Lib.hid k3
        clear k1 k2 k3
        have hlt' : (a : Int) + 2 < zs.length := by omega
        have hand := i64_and127 z
        have hor : bits .or .i64 n (z % 128 * 16384) = n + z % 128 * 16384 := by
          have := or_shift 14 n (z % 128) hn0 (by simp at hn1 ⊢; omega) (by omega) (by simp at hn1 ⊢; omega)
          simpa using this
        by_cases hc : z < 128
        · have hzm : z % 128 = z := by omega
          by_cases h0 : z = 0
          · have HG := Lib.hid ((K1.out hc (.inl ⟨h0, by omega⟩)).symm.trans HR.out)
            subst h0
            clear hzm
            go_wp2_with fail
            go_ret3
            exact ⟨by rw [← HG.out]; rfl, rfl⟩
          · by_cases hm : 2147483647 < n + z % 128 * 16384
            · have HG := Lib.hid ((K1.out hc (.inr (by simpa using hm))).symm.trans HR.out)
              clear hzm
              go_wp2_with fail
              all_goals go_ret3
              all_goals exact ⟨by rw [← HG.out]; rfl, rfl⟩
            · have HG := Lib.hid ((K2.out hc (by simp; omega)).symm.trans HR.out)
              clear hzm
              go_wp2_with fail
              go_ret3
              exact ⟨by rw [← HG.out]; simp [resP], rfl⟩
        · have HG := Lib.hid ((K3.out (by omega)).symm.trans HR.out)
          go_wp2_with fail
          go_round
          case rel => exact ⟨3, n + z % 128 * 16384, by omega, by go_num, by go_num, by omega, by simp; omega, by have := HG.out; simpa using this⟩
          case measure => simp [intOf]
      · have HG := Lib.hid ((gU_end zs a 2 n 3 hlt).symm.trans HR.out)
        have hlt' : (zs.length : Int) ≤ (a : Int) + 2 := by omega
        go_wp2_with fail
        go_ret3
        exact ⟨by rw [← HG.out]; rfl, rfl⟩
    · -- the byte at 3
      have hn1 : n < 2097152 := by simpa using hn1
      by_cases hlt : a + 3 < zs.length
      · have hz := hZ zs[a + 3] (List.getElem_mem hlt)
        obtain ⟨b, off, rfl, hb, hcell⟩ := rd_at hR hlt
        have k1 := fun h1 h2 => gU_bad zs a 3 n 1 hlt h1 h2
        have k2 := fun h1 h2 => gU_good zs a 3 n 1 hlt h1 h2
        have k3 := fun h1 => gU_on zs a 3 n 1 hlt h1
        obtain ⟨hz0, hz1⟩ := hz
        generalize zs[a + 3] = z at *
        have K1 := Lib.hid k1
        have K2 := Lib.hid k2
        have K3 := Lib.hid k3
        clear k1 k2 k3
        have hlt' : (a : Int) + 3 < zs.length := by omega
        have hand := i64_and127 z
        have hor : bits .or .i64 n (z % 128 * 2097152) = n + z % 128 * 2097152 := by
          have := or_shift 21 n (z % 128) hn0 (by simp at hn1 ⊢; omega) (by omega) (by simp at hn1 ⊢; omega)
          simpa using this
        by_cases hc : z < 128
        · have hzm : z % 128 = z := by omega
          by_cases h0 : z = 0
          · have HG := Lib.hid ((K1.out hc (.inl ⟨h0, by omega⟩)).symm.trans HR.out)
            subst h0
            clear hzm
            go_wp2_with fail
            go_ret3
            exact ⟨by rw [← HG.out]; rfl, rfl⟩
          · by_cases hm : 2147483647 < n + z % 128 * 2097152
            · have HG := Lib.hid ((K1.out hc (.inr (by simpa using hm))).symm.trans HR.out)
              clear hzm
              go_wp2_with fail
              all_goals go_ret3
              all_goals exact ⟨by rw [← HG.out]; rfl, rfl⟩
            · have HG := Lib.hid ((K2.out hc (by simp; omega)).symm.trans HR.out)
              clear hzm
              go_wp2_with fail
              go_ret3
              exact ⟨by rw [← HG.out]; simp [resP], rfl⟩
        · have HG := Lib.hid ((K3.out (by omega)).symm.trans HR.out)
          go_wp2_with fail
          go_round
          case rel => exact ⟨4, n + z % 128 * 2097152, by omega, by go_num, by go_num, by omega, by simp; omega, by have := HG.out; simpa using this⟩
          case measure => simp [intOf]
      · have HG := Lib.hid ((gU_end zs a 3 n 2 hlt).symm.trans HR.out)
        have hlt' : (zs.length : Int) ≤ (a : Int) + 3 := by omega
        go_wp2_with fail
        go_ret3
        exact ⟨by rw [← HG.out]; rfl, rfl⟩
    · -- the byte at 4
      have hn1 : n < 268435456 := by simpa using hn1
      by_cases hlt : a + 4 < zs.length
      · have hz := hZ zs[a + 4] (List.getElem_mem hlt)
        obtain ⟨b, off, rfl, hb, hcell⟩ := rd_at hR hlt
        have k1 := fun h1 h2 => gU_bad zs a 4 n 0 hlt h1 h2
        have k2 := fun h1 h2 => gU_good zs a 4 n 0 hlt h1 h2
        have k3 := fun h1 => gU_on zs a 4 n 0 hlt h1
        obtain ⟨hz0, hz1⟩ := hz
        generalize zs[a + 4] = z at *
        have K1 := Lib.hid k1
        have K2 := Lib.hid k2
        have K3 := Lib.hid k3
        clear k1 k2 k3
        have hlt' : (a : Int) + 4 < zs.length := by omega
        have hand := i64_and127 z
        have hor : bits .or .i64 n (z % 128 * 268435456) = n + z % 128 * 268435456 := by
          have := or_shift 28 n (z % 128) hn0 (by simp at hn1 ⊢; omega) (by omega) (by simp at hn1 ⊢; omega)
          simpa using this
        by_cases hc : z < 128
        · have hzm : z % 128 = z := by omega
          by_cases h0 : z = 0
          · have HG := Lib.hid ((K1.out hc (.inl ⟨h0, by omega⟩)).symm.trans HR.out)
            subst h0
            clear hzm
            go_wp2_with fail
            go_ret3
            exact ⟨by rw [← HG.out]; rfl, rfl⟩
          · by_cases hm : 2147483647 < n + z % 128 * 268435456
            · have HG := Lib.hid ((K1.out hc (.inr (by simpa using hm))).symm.trans HR.out)
              clear hzm
              go_wp2_with fail
              all_goals go_ret3
              all_goals exact ⟨by rw [← HG.out]; rfl, rfl⟩
            · have HG := Lib.hid ((K2.out hc (by simp; omega)).symm.trans HR.out)
              clear hzm
              go_wp2_with fail
              go_ret3
              exact ⟨by rw [← HG.out]; simp [resP], rfl⟩
        · have HG := Lib.hid ((K3.out (by omega)).symm.trans HR.out)
          go_wp2_with fail
          go_round
          case rel => exact ⟨5, n + z % 128 * 268435456, by omega, by go_num, by go_num, by omega, by simp; omega, by have := HG.out; simpa using this⟩
          case measure => simp [intOf]
      · have HG := Lib.hid ((gU_end zs a 4 n 1 hlt).symm.trans HR.out)
        have hlt' : (zs.length : Int) ≤ (a : Int) + 4 := by omega
        go_wp2_with fail
        go_ret3
        exact ⟨by rw [← HG.out]; rfl, rfl⟩
    · -- five bytes, and no last one
      have HG := HR
      go_wp2_with fail
      go_ret3
      exact ⟨by rw [← HG.out]; rfl, rfl⟩

set_option maxHeartbeats 8000000 in
theorem iGetU_in (A : Option Addr) (c a : Nat) (zs : List Int) (R : Option (Int × Int)) (w : World) (hR : Reads w w.heap.size 1 A zs.length (u8s zs)) (hZ : Byt zs) (hn : zs.length ≤ 536870912) (ha : a < zs.length) (hX : gU zs a 5 0 0 = R) :
    Calls Tryd.prog 23 #[.slice A zs.length c, .int .i64 a] w fun e w' => e = .returned (resP R) ∧ w' = w := by
  have hn' : (zs.length : Int) ≤ 536870912 := by omega
  have ha' : (a : Int) < zs.length := by omega
  have HX := Lib.hid hX
  clear hX
  go_enter Tryd.func23, Tryd.ntmps23
  go_wp2_with fail
  refine (iWithin _ _ _ _).mono ?_; rintro e w1 ⟨rfl, rfl⟩
  have d1 : decide ((0 : Int) ≤ (a : Int)) = true := by simp
  have d2 : decide ((a : Int) ≤ (zs.length : Int) - 1) = true := by simp; omega
  go_wp2_with fail
  go_loop [7, 8] (fun nv iv => ∃ (i : Nat) (n : Int), i ≤ 5 ∧ iv = .int .i64 i ∧ nv = .int .i64 n ∧ 0 ≤ n ∧ n < 128 ^ i ∧ gU zs a (5 - i) i n = R) (fun _ iv => 5 - (intOf iv).toNat)
  case atStart => exact ⟨0, 0, by omega, rfl, rfl, by omega, by simp, HX.out⟩
  case round =>
    obtain ⟨i, n, hi5, rfl, rfl, hn0, hn1, hT⟩ := hrel
    have HR := Lib.hid hT
    clear hT
    have hi : i = 0 ∨ i = 1 ∨ i = 2 ∨ i = 3 ∨ i = 4 ∨ i = 5 := by omega
    rcases hi with rfl | rfl | rfl | rfl | rfl | rfl
    · -- the byte at 0
      have hn1 : n < 1 := by simpa using hn1
      by_cases hlt : a + 0 < zs.length
      · have hz := hZ zs[a + 0] (List.getElem_mem hlt)
        obtain ⟨b, off, rfl, hb, hcell⟩ := rd_at hR hlt
        simp only [Nat.add_zero] at hcell
        have k1 := fun h1 h2 => gU_bad zs a 0 n 4 hlt h1 h2
        have k2 := fun h1 h2 => gU_good zs a 0 n 4 hlt h1 h2
        have k3 := fun h1 => gU_on zs a 0 n 4 hlt h1
        obtain ⟨hz0, hz1⟩ := hz
        generalize zs[a + 0] = z at *
        have K1 := Lib.hid k1
        have K2 := Lib.hid k2
        have K3 := Lib.hid k3
        clear k1 k2 k3
        have hlt' : (a : Int) + 0 < zs.length := by omega
        by_cases hc : z < 128
        · have hzm : z % 128 = z := by omega
          have HG := Lib.hid ((K2.out hc (by simp; omega)).symm.trans HR.out)
          clear hzm
          go_wp2_with fail
          all_goals go_ret3
          all_goals exact ⟨by rw [← HG.out]; simp [resP] <;> omega, rfl⟩
        · have HG := Lib.hid ((K3.out (by omega)).symm.trans HR.out)
          go_wp2_with fail
          go_round
          case rel => exact ⟨1, n + z % 128 * 1, by omega, by go_num, by go_num, by omega, by simp; omega, by have := HG.out; simpa using this⟩
          case measure => simp [intOf]
      · exfalso; omega
    · -- the byte at 1
      have hn1 : n < 128 := by simpa using hn1
      by_cases hlt : a + 1 < zs.length
      · have hz := hZ zs[a + 1] (List.getElem_mem hlt)
        obtain ⟨b, off, rfl, hb, hcell⟩ := rd_at hR hlt
        have k1 := fun h1 h2 => gU_bad zs a 1 n 3 hlt h1 h2
        have k2 := fun h1 h2 => gU_good zs a 1 n 3 hlt h1 h2
        have k3 := fun h1 => gU_on zs a 1 n 3 hlt h1
        obtain ⟨hz0, hz1⟩ := hz
        generalize zs[a + 1] = z at *
        have K1 := Lib.hid k1
        have K2 := Lib.hid k2
        have K3 := Lib.hid k3
        clear k1 k2 k3
        have hlt' : (a : Int) + 1 < zs.length := by omega
        by_cases hc : z < 128
        · have hzm : z % 128 = z := by omega
          by_cases h0 : z = 0
          · have HG := Lib.hid ((K1.out hc (.inl ⟨h0, by omega⟩)).symm.trans HR.out)
            subst h0
            clear hzm
            go_wp2_with fail
            go_ret3
            exact ⟨by rw [← HG.out]; rfl, rfl⟩
          · by_cases hm : 2147483647 < n + z % 128 * 128
            · have HG := Lib.hid ((K1.out hc (.inr (by simpa using hm))).symm.trans HR.out)
              clear hzm
              go_wp2_with fail
              all_goals go_ret3
              all_goals exact ⟨by rw [← HG.out]; rfl, rfl⟩
            · have HG := Lib.hid ((K2.out hc (by simp; omega)).symm.trans HR.out)
              clear hzm
              go_wp2_with fail
              go_ret3
              exact ⟨by rw [← HG.out]; simp [resP], rfl⟩
        · have HG := Lib.hid ((K3.out (by omega)).symm.trans HR.out)
          go_wp2_with fail
          go_round
          case rel => exact ⟨2, n + z % 128 * 128, by omega, by go_num, by go_num, by omega, by simp; omega, by have := HG.out; simpa using this⟩
          case measure => simp [intOf]
      · have HG := Lib.hid ((gU_end zs a 1 n 4 hlt).symm.trans HR.out)
        have hlt' : (zs.length : Int) ≤ (a : Int) + 1 := by omega
        go_wp2_with fail
        go_ret3
        exact ⟨by rw [← HG.out]; rfl, rfl⟩
    · -- the byte at 2
      have hn1 : n < 16384 := by simpa using hn1
      by_cases hlt : a + 2 < zs.length
      · have hz := hZ zs[a + 2] (List.getElem_mem hlt)
        obtain ⟨b, off, rfl, hb, hcell⟩ := rd_at hR hlt
        have k1 := fun h1 h2 => gU_bad zs a 2 n 2 hlt h1 h2
        have k2 := fun h1 h2 => gU_good zs a 2 n 2 hlt h1 h2
        have k3 := fun h1 => gU_on zs a 2 n 2 hlt h1
        obtain ⟨hz0, hz1⟩ := hz
        generalize zs[a + 2] = z at *
        have K1 := Lib.hid k1
        have K2 := Lib.hid k2
        have K3 := Lib.hid k3
        clear k1 k2 k3
        have hlt' : (a : Int) + 2 < zs.length := by omega
        by_cases hc : z < 128
        · have hzm : z % 128 = z := by omega
          by_cases h0 : z = 0
          · have HG := Lib.hid ((K1.out hc (.inl ⟨h0, by omega⟩)).symm.trans HR.out)
            subst h0
            clear hzm
            go_wp2_with fail
            go_ret3
            exact ⟨by rw [← HG.out]; rfl, rfl⟩
          · by_cases hm : 2147483647 < n + z % 128 * 16384
            · have HG := Lib.hid ((K1.out hc (.inr (by simpa using hm))).symm.trans HR.out)
              clear hzm
              go_wp2_with fail
              all_goals go_ret3
              all_goals exact ⟨by rw [← HG.out]; rfl, rfl⟩
            · have HG := Lib.hid ((K2.out hc (by simp; omega)).symm.trans HR.out)
              clear hzm
              go_wp2_with fail
              go_ret3
              exact ⟨by rw [← HG.out]; simp [resP], rfl⟩
        · have HG := Lib.hid ((K3.out (by omega)).symm.trans HR.out)
          go_wp2_with fail
          go_round
          case rel => exact ⟨3, n + z % 128 * 16384, by omega, by go_num, by go_num, by omega, by simp; omega, by have := HG.out; simpa using this⟩
          case measure => simp [intOf]
      · have HG := Lib.hid ((gU_end zs a 2 n 3 hlt).symm.trans HR.out)
        have hlt' : (zs.length : Int) ≤ (a : Int) + 2 := by omega
        go_wp2_with fail
        go_ret3
        exact ⟨by rw [← HG.out]; rfl, rfl⟩
    · -- the byte at 3
      have hn1 : n < 2097152 := by simpa using hn1
      by_cases hlt : a + 3 < zs.length
      · have hz := hZ zs[a + 3] (List.getElem_mem hlt)
        obtain ⟨b, off, rfl, hb, hcell⟩ := rd_at hR hlt
        have k1 := fun h1 h2 => gU_bad zs a 3 n 1 hlt h1 h2
        have k2 := fun h1 h2 => gU_good zs a 3 n 1 hlt h1 h2
        have k3 := fun h1 => gU_on zs a 3 n 1 hlt h1
        obtain ⟨hz0, hz1⟩ := hz
        generalize zs[a + 3] = z at *
        have K1 := Lib.hid k1
        have K2 := Lib.hid k2
        have K3 := Lib.hid k3
        clear k1 k2 k3
        have hlt' : (a : Int) + 3 < zs.length := by omega
        by_cases hc : z < 128
        · have hzm : z % 128 = z := by omega
          by_cases h0 : z = 0
          · have HG := Lib.hid ((K1.out hc (.inl ⟨h0, by omega⟩)).symm.trans HR.out)
            subst h0
            clear hzm
            go_wp2_with fail
            go_ret3
            exact ⟨by rw [← HG.out]; rfl, rfl⟩
          · by_cases hm : 2147483647 < n + z % 128 * 2097152
            · have HG := Lib.hid ((K1.out hc (.inr (by simpa using hm))).symm.trans HR.out)
              clear hzm
              go_wp2_with fail
              all_goals go_ret3
              all_goals exact ⟨by rw [← HG.out]; rfl, rfl⟩
            · have HG := Lib.hid ((K2.out hc (by simp; omega)).symm.trans HR.out)
              clear hzm
              go_wp2_with fail
              go_ret3
              exact ⟨by rw [← HG.out]; simp [resP], rfl⟩
        · have HG := Lib.hid ((K3.out (by omega)).symm.trans HR.out)
          go_wp2_with fail
          go_round
          case rel => exact ⟨4, n + z % 128 * 2097152, by omega, by go_num, by go_num, by omega, by simp; omega, by have := HG.out; simpa using this⟩
          case measure => simp [intOf]
      · have HG := Lib.hid ((gU_end zs a 3 n 2 hlt).symm.trans HR.out)
        have hlt' : (zs.length : Int) ≤ (a : Int) + 3 := by omega
        go_wp2_with fail
        go_ret3
        exact ⟨by rw [← HG.out]; rfl, rfl⟩
    · -- the byte at 4
      have hn1 : n < 268435456 := by simpa using hn1
      by_cases hlt : a + 4 < zs.length
      · have hz := hZ zs[a + 4] (List.getElem_mem hlt)
        obtain ⟨b, off, rfl, hb, hcell⟩ := rd_at hR hlt
        have k1 := fun h1 h2 => gU_bad zs a 4 n 0 hlt h1 h2
        have k2 := fun h1 h2 => gU_good zs a 4 n 0 hlt h1 h2
        have k3 := fun h1 => gU_on zs a 4 n 0 hlt h1
        obtain ⟨hz0, hz1⟩ := hz
        generalize zs[a + 4] = z at *
        have K1 := Lib.hid k1
        have K2 := Lib.hid k2
        have K3 := Lib.hid k3
        clear k1 k2 k3
        have hlt' : (a : Int) + 4 < zs.length := by omega
        by_cases hc : z < 128
        · have hzm : z % 128 = z := by omega
          by_cases h0 : z = 0
          · have HG := Lib.hid ((K1.out hc (.inl ⟨h0, by omega⟩)).symm.trans HR.out)
            subst h0
            clear hzm
            go_wp2_with fail
            go_ret3
            exact ⟨by rw [← HG.out]; rfl, rfl⟩
          · by_cases hm : 2147483647 < n + z % 128 * 268435456
            · have HG := Lib.hid ((K1.out hc (.inr (by simpa using hm))).symm.trans HR.out)
              clear hzm
              go_wp2_with fail
              all_goals go_ret3
              all_goals exact ⟨by rw [← HG.out]; rfl, rfl⟩
            · have HG := Lib.hid ((K2.out hc (by simp; omega)).symm.trans HR.out)
              clear hzm
              go_wp2_with fail
              go_ret3
              exact ⟨by rw [← HG.out]; simp [resP], rfl⟩
        · have HG := Lib.hid ((K3.out (by omega)).symm.trans HR.out)
          go_wp2_with fail
          go_round
          case rel => exact ⟨5, n + z % 128 * 268435456, by omega, by go_num, by go_num, by omega, by simp; omega, by have := HG.out; simpa using this⟩
          case measure => simp [intOf]
      · have HG := Lib.hid ((gU_end zs a 4 n 1 hlt).symm.trans HR.out)
        have hlt' : (zs.length : Int) ≤ (a : Int) + 4 := by omega
        go_wp2_with fail
        go_ret3
        exact ⟨by rw [← HG.out]; rfl, rfl⟩
    · -- five bytes, and no last one
      have HG := HR
      go_wp2_with fail
      go_ret3
      exact ⟨by rw [← HG.out]; rfl, rfl⟩

end Go.Proofs.YtalnkdbmbjplpaaDoor
