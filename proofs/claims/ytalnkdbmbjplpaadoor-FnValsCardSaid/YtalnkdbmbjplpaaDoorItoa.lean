/- Walks over digits of the program and l2Num of the reference: a number's decimal numeral. The table of the powers of ten holds them; the number is an int. -/
import Derived.Test.YtalnkdbmbjplpaaDoorLiftL
import Derived.Test.YtalnkdbmbjplpaaDoorRow
import Derived.Test.YtalnkdbmbjplpaaDoorConv
import Derived.Test.YtalnkdbmbjplpaaDoorShelf
import Derived.Deep.RegionWith
namespace Go.Proofs.YtalnkdbmbjplpaaDoor
open Go.RowKit Go.Sort

/-- A number's decimal numeral. -/
def itoaS (n : Int) : ByteArray := ⟨(Lib.itoa n).toArray⟩
theorem bl_grow (w : World) (n : Nat) (os : Array Obj) : Below w.heap.size w (grow (w.drewN n) os) :=
  ⟨rfl, rfl, rfl, by simp [grow, World.drewN], fun i hi => by
    show (w.heap ++ os)[i]? = _
    rw [Array.getElem?_append_left hi]⟩
set_option maxHeartbeats 400000 in
theorem iDigits (n : Int) (w : World) (h0 : -9223372036854775808 ≤ n) (h1 : n ≤ 9223372036854775807) (hT : Tab w) :
    Calls Tryd.prog 26 #[.int .i64 n] w fun e w' => e = .returned (.string (itoaS n)) ∧ Below w.heap.size w w' := by
  go_enter Tryd.func26, Tryd.ntmps26
  go_wp2_with fail
  refine (Tryd.strconv_Itoa n h0 h1 _ hT).mono ?_; rintro e w1 ⟨rfl, k, os, rfl⟩
  go_wp2_with fail
  go_ret
  exact ⟨rfl, bl_grow _ _ _⟩

theorem conv_in (W : World) (b : Nat) (z : Int) (h0 : 0 ≤ z) (h1 : z < 256) (hc : W.cell? ⟨b, 0, none⟩ = some (.int .u8 z)) : (convert 22 9 (.slice (some ⟨b, 0, none⟩) 1 1)).run Tryd.prog W = .ok (.string (bStr [z])) W := by
  have hR : Reads W (b + 1) 1 (some ⟨b, 0, none⟩) 1 (u8s [z]) := ⟨rfl, fun _ => ⟨_, _, rfl, by omega, fun j u hu => by
    cases j with
    | zero =>
      cases hu
      exact hc
    | succ j => cases hu⟩⟩
  exact conv_bytes hR rfl (fun x hx => by simp at hx; subst hx; exact ⟨h0, h1⟩)
theorem new_cell (w : World) (z : Int) : (w.alloc (.cells #[.int .u8 z] 5)).cell? ⟨w.heap.size, 0, none⟩ = some (.int .u8 z) := (Blk.new w 5 #[.int .u8 z]).cell 0
theorem bs_append (l m : List UInt8) : (⟨l.toArray⟩ : ByteArray) ++ ⟨m.toArray⟩ = ⟨(l ++ m).toArray⟩ := by
  apply ByteArray.ext
  rw [ByteArray.data_append]
  simp
theorem bStr_one (z : Int) : bStr [z] = ⟨[UInt8.ofNat z.toNat].toArray⟩ := rfl
theorem td_neg (n : Int) (h : n ≤ 0) : n.tdiv 10 = -((-n) / 10) ∧ n.tmod 10 = -((-n) % 10) := by
  obtain ⟨m, rfl⟩ : ∃ m : Int, n = -m := ⟨-n, by omega⟩
  rw [Int.neg_tdiv, Int.neg_tmod, Int.tdiv_eq_ediv_of_nonneg (by omega), Int.tmod_eq_emod_of_nonneg (by omega), Int.neg_neg]
  exact ⟨rfl, rfl⟩
theorem td_pos (n : Int) (h : 0 ≤ n) : n.tdiv 10 = n / 10 ∧ n.tmod 10 = n % 10 := by
  rw [Int.tdiv_eq_ediv_of_nonneg h, Int.tmod_eq_emod_of_nonneg h]
  exact ⟨rfl, rfl⟩
theorem decDigits_more (u : Nat) (h : ¬ u < 10) : Lib.decDigits u = Lib.decDigits (u / 10) ++ [UInt8.ofNat (48 + u % 10)] := by rw [Lib.decDigits, dif_neg h]
theorem itoaS_neg (n d r : Int) (h : n < -9) (hd : n.tdiv 10 = d) (hr : n.tmod 10 = r) : ⟨#[45]⟩ ++ itoaS (-d) ++ bStr [48 - r] = itoaS n := by
  have t := td_neg n (by omega)
  rw [hd, hr] at t
  have hn : ¬ n.natAbs < 10 := by omega
  have e1 : n.natAbs / 10 = (-d).toNat := by omega
  have e2 : 48 + n.natAbs % 10 = (48 - r).toNat := by omega
  unfold itoaS Lib.itoa
  rw [if_neg (by omega), if_pos (by omega), decDigits_more _ hn, e1, e2, bStr_one, show (⟨#[45]⟩ : ByteArray) = ⟨[(45 : UInt8)].toArray⟩ from rfl, bs_append, bs_append]
  rfl
theorem itoaS_neg1 (n : Int) (h : -9 ≤ n) (h0 : n < 0) : ⟨#[45]⟩ ++ bStr [48 - n] = itoaS n := by
  have e2 : 48 + n.natAbs = (48 - n).toNat := by omega
  unfold itoaS Lib.itoa
  rw [if_pos (by omega), Lib.decDigits_one (by omega), e2, bStr_one, show (⟨#[45]⟩ : ByteArray) = ⟨[(45 : UInt8)].toArray⟩ from rfl, bs_append]
  rfl
theorem itoaS_one (n : Int) (h : 0 ≤ n) (h0 : n < 10) : bStr [48 + n] = itoaS n := by
  have e2 : 48 + n.toNat = (48 + n).toNat := by omega
  unfold itoaS Lib.itoa
  rw [if_neg (by omega), Lib.decDigits_one (by omega), e2, bStr_one]
theorem itoaS_pos (n d r : Int) (h : 10 ≤ n) (hd : n.tdiv 10 = d) (hr : n.tmod 10 = r) : itoaS d ++ bStr [48 + r] = itoaS n := by
  have t := td_pos n (by omega)
  rw [hd, hr] at t
  have e1 : n.toNat / 10 = d.toNat := by omega
  have e2 : 48 + n.toNat % 10 = (48 + r).toNat := by omega
  unfold itoaS Lib.itoa
  rw [if_neg (by omega), if_neg (by omega), decDigits_more n.toNat (by omega), e1, e2, bStr_one, bs_append]
theorem nDigits_le : ∀ (k u : Nat), u < 10 ^ (k + 1) → Lib.nDigits u ≤ k + 1
  | 0, u, h => by rw [Lib.nDigits_small (by simpa using h)]; omega
  | k + 1, u, h => by
    by_cases h1 : u < 10
    · rw [Lib.nDigits_small h1]; omega
    · rw [Lib.nDigits_big h1]
      have := nDigits_le k (u / 10) (by rw [Nat.pow_succ] at h; omega)
      omega
theorem itoaS_size (n : Int) (h0 : -9223372036854775808 ≤ n) (h1 : n ≤ 9223372036854775808) : (itoaS n).size ≤ 21 := by
  unfold itoaS Lib.itoa
  split
  · have := nDigits_le 18 n.natAbs (by omega)
    simp [ByteArray.size, Lib.decDigits_length]
    omega
  · have := nDigits_le 18 n.toNat (by omega)
    simp [ByteArray.size, Lib.decDigits_length]
    omega
theorem i64_wrap (x : Int) (h0 : -9223372036854775808 ≤ x) (h1 : x ≤ 9223372036854775807) : IntKind.i64.wrap x = x := by rw [IntKind.wrap_i64]; omega

end Go.Proofs.YtalnkdbmbjplpaaDoor
