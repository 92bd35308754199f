/- Walks over digits of the program and l2Num of the reference: a number's decimal numeral. The table of the powers of ten holds them; the number is an int. -/
import Derived.Test.YtjpefadalinhoaaDoorLiftL
import Derived.Test.YtjpefadalinhoaaDoorRow
import Derived.Test.YtjpefadalinhoaaDoorConv
import Derived.Test.YtjpefadalinhoaaDoorShelf
import Derived.Deep.RegionWith
namespace Go.Proofs.YtjpefadalinhoaaDoor
open Go.RowKit Go.Sort

/-- A number's decimal numeral. -/
def itoaS (n : Int) : ByteArray := ⟨(Lib.itoa n).toArray⟩
theorem bl_grow (w : World) (n : Nat) (os : Array Obj) : Below w.heap.size w (grow (w.drewN n) os) :=
  ⟨rfl, rfl, rfl, by simp [grow, World.drewN], fun i hi => by
    show (w.heap ++ os)[i]? = _
    rw [Array.getElem?_append_left hi]⟩
set_option maxHeartbeats 400000 in
theorem iDigits (n : Int) (w : World) (h0 : -9223372036854775808 ≤ n) (h1 : n ≤ 9223372036854775807) (hT : Tab w) :
    Calls Tryd.prog 17 #[.int .i64 n] w fun e w' => e = .returned (.string (itoaS n)) ∧ Below w.heap.size w w' := by
  go_enter Tryd.func17, Tryd.ntmps17
  go_wp2_with fail
  refine (Tryd.strconv_Itoa n h0 h1 _ hT).mono ?_; rintro e w1 ⟨rfl, k, os, rfl⟩
  go_wp2_with fail
  go_ret
  exact ⟨rfl, bl_grow _ _ _⟩

theorem conv_in (W : World) (b : Nat) (z : Int) (h0 : 0 ≤ z) (h1 : z < 256) (hc : W.cell? ⟨b, 0, none⟩ = some (.int .u8 z)) : (convert 44 9 (.slice (some ⟨b, 0, none⟩) 1 1)).run Tryd.prog W = .ok (.string (bStr [z])) W := by
  have hR : Reads W (b + 1) 1 (some ⟨b, 0, none⟩) 1 (u8s [z]) := ⟨rfl, fun _ => ⟨_, _, rfl, by omega, fun j u hu => by
    cases j with
    | zero =>
      cases hu
      exact hc
    | succ j => cases hu⟩⟩
  exact conv_bytes hR rfl (fun x hx => by simp at hx; subst hx; exact ⟨h0, h1⟩)
theorem new_cell (w : World) (z : Int) : (w.alloc (.cells #[.int .u8 z] 5)).cell? ⟨w.heap.size, 0, none⟩ = some (.int .u8 z) := (Blk.new w 5 #[.int .u8 z]).cell 0
theorem bs_append (l m : List UInt8) : (⟨l.toArray⟩ : ByteArray) ++ ⟨m.toArray⟩ = ⟨(l ++ m).toArray⟩ := by
  apply ByteArray.ext
  rw [ByteArray.data_append]
  simp
theorem bStr_one (z : Int) : bStr [z] = ⟨[UInt8.ofNat z.toNat].toArray⟩ := rfl
theorem td_neg (n : Int) (h : n ≤ 0) : n.tdiv 10 = -((-n) / 10) ∧ n.tmod 10 = -((-n) % 10) := by
  obtain ⟨m, rfl⟩ : ∃ m : Int, n = -m := ⟨-n, by omega⟩
  rw [Int.neg_tdiv, Int.neg_tmod, Int.tdiv_eq_ediv_of_nonneg (by omega), Int.tmod_eq_emod_of_nonneg (by omega), Int.neg_neg]
  exact ⟨rfl, rfl⟩
theorem td_pos (n : Int) (h : 0 ≤ n) : n.tdiv 10 = n / 10 ∧ n.tmod 10 = n % 10 := by
  rw [Int.tdiv_eq_ediv_of_nonneg h, Int.tmod_eq_emod_of_nonneg h]
  exact ⟨rfl, rfl⟩
theorem decDigits_more (u : Nat) (h : ¬ u < 10) : Lib.decDigits u = Lib.decDigits (u / 10) ++ [UInt8.ofNat (48 + u % 10)] := by rw [Lib.decDigits, dif_neg h]
theorem itoaS_neg (n d r : Int) (h : n < -9) (hd : n.tdiv 10 = d) (hr : n.tmod 10 = r) : ⟨#[45]⟩ ++ itoaS (-d) ++ bStr [48 - r] = itoaS n := by
  have t := td_neg n (by omega)
  rw [hd, hr] at t
  have hn : ¬ n.natAbs < 10 := by omega
  have e1 : n.natAbs / 10 = (-d).toNat := by omega
  have e2 : 48 + n.natAbs % 10 = (48 - r).toNat := by omega
  unfold itoaS Lib.itoa
  rw [if_neg (by omega), if_pos (by omega), decDigits_more _ hn, e1, e2, bStr_one, show (⟨#[45]⟩ : ByteArray) = ⟨[(45 : UInt8)].toArray⟩ from rfl, bs_append, bs_append]
  rfl
theorem itoaS_neg1 (n : Int) (h : -9 ≤ n) (h0 : n < 0) : ⟨#[45]⟩ ++ bStr [48 - n] = itoaS n := by
  have e2 : 48 + n.natAbs = (48 - n).toNat := by omega
  unfold itoaS Lib.itoa
  rw [if_pos (by omega), Lib.decDigits_one (by omega), e2, bStr_one, show (⟨#[45]⟩ : ByteArray) = ⟨[(45 : UInt8)].toArray⟩ from rfl, bs_append]
  rfl
theorem itoaS_one (n : Int) (h : 0 ≤ n) (h0 : n < 10) : bStr [48 + n] = itoaS n := by
  have e2 : 48 + n.toNat = (48 + n).toNat := by omega
  unfold itoaS Lib.itoa
  rw [if_neg (by omega), Lib.decDigits_one (by omega), e2, bStr_one]
theorem itoaS_pos (n d r : Int) (h : 10 ≤ n) (hd : n.tdiv 10 = d) (hr : n.tmod 10 = r) : itoaS d ++ bStr [48 + r] = itoaS n := by
  have t := td_pos n (by omega)
  rw [hd, hr] at t
  have e1 : n.toNat / 10 = d.toNat := by omega
  have e2 : 48 + n.toNat % 10 = (48 + r).toNat := by omega
  unfold itoaS Lib.itoa
  rw [if_neg (by omega), if_neg (by omega), decDigits_more n.toNat (by omega), e1, e2, bStr_one, bs_append]
theorem nDigits_le : ∀ (k u : Nat), u < 10 ^ (k + 1) → Lib.nDigits u ≤ k + 1
  | 0, u, h => by rw [Lib.nDigits_small (by simpa using h)]; omega
  | k + 1, u, h => by
    by_cases h1 : u < 10
    · rw [Lib.nDigits_small h1]; omega
    · rw [Lib.nDigits_big h1]
      have := nDigits_le k (u / 10) (by rw [Nat.pow_succ] at h; omega)
      omega
theorem itoaS_size (n : Int) (h0 : -9223372036854775808 ≤ n) (h1 : n ≤ 9223372036854775808) : (itoaS n).size ≤ 21 := by
  unfold itoaS Lib.itoa
  split
  · have := nDigits_le 18 n.natAbs (by omega)
    simp [ByteArray.size, Lib.decDigits_length]
    omega
  · have := nDigits_le 18 n.toNat (by omega)
    simp [ByteArray.size, Lib.decDigits_length]
    omega
theorem i64_wrap (x : Int) (h0 : -9223372036854775808 ≤ x) (h1 : x ≤ 9223372036854775807) : IntKind.i64.wrap x = x := by rw [IntKind.wrap_i64]; omega

set_option maxHeartbeats 1000000 in
theorem sL2Num : ∀ (f : Nat) (n : Int) (w : World), n.natAbs < f → -9223372036854775808 ≤ n → n ≤ 9223372036854775807 →
    Calls Tryd.prog 15 #[.int .i64 n] w fun e w' => e = .returned (.string (itoaS n)) ∧ Below w.heap.size w w' := by
  intro f
  induction f with
  | zero => intro n w h; omega
  | succ f ih =>
    intro n w hf h0 h1
    by_cases c1 : n < -9
    · obtain ⟨d, hd⟩ : ∃ d, n.tdiv 10 = d := ⟨_, rfl⟩
      obtain ⟨r, hr⟩ : ∃ r, n.tmod 10 = r := ⟨_, rfl⟩
      obtain ⟨hf', hd0, hr0⟩ : (-d).natAbs < f ∧ (-9223372036854775807 ≤ d ∧ d ≤ 0) ∧ (-9 ≤ r ∧ r ≤ 0) := by
        have t := td_neg n (by omega)
        rw [hd, hr] at t
        omega
      have e1 := i64_wrap d (by omega) (by omega)
      have e2 := i64_wrap (-d) (by omega) (by omega)
      have e3 := i64_wrap (48 - r) (by omega) (by omega)
      have e4 : IntKind.u8.wrap (48 - r) = 48 - r := by rw [IntKind.wrap_u8]; omega
      have K := conv_in (w.alloc (.cells #[.int .u8 (48 - r)] 5)).drew w.heap.size (48 - r) (by omega) (by omega) (new_cell w _)
      have E := Lib.hid (itoaS_neg n d r c1 hd hr)
      have hz := itoaS_size (-d) (by omega) (by omega)
      have I := fun w => ih (-d) w hf' (by omega) (by omega)
      generalize itoaS (-d) = T at E hz I
      have II := Lib.hid I
      clear I
      have hs : (bStr [48 - r]).size = 1 := rfl
      go_enter Tryd.func15, Tryd.ntmps15
      go_wp2_with fail
      go_region_with (first | (go_at_call 15; refine (II.out _).mono ?_; rintro e w1 ⟨rfl, b1⟩; have K1 := conv_in (w1.alloc (.cells #[.int .u8 (48 - r)] 5)) w1.heap.size (48 - r) (by omega) (by omega) (new_cell w1 _); try have K2 := conv_in w1 w.heap.size (48 - r) (by omega) (by omega) ((b1.cell (show w.heap.size < _ by simp [World.drew])).trans (new_cell w _))))
      all_goals go_wp2_with fail
      all_goals go_ret
      all_goals exact ⟨congrArg (fun s => Ending.returned (.string s)) E.out, by repeat (first | exact Below.refl _ _ | refine bl_drewN ?_ _ | refine Below.drew ?_ | refine bl_alloc ?_ _ | refine bl_set ?_ (by simp) _ | refine bl_trans ?_ (by assumption))⟩
    by_cases c2 : n < 0
    · have K := conv_in (w.alloc (.cells #[.int .u8 (48 - n)] 5)) w.heap.size (48 - n) (by omega) (by omega) (new_cell w _)
      have hs : (bStr [48 - n]).size = 1 := rfl
      have E := Lib.hid (itoaS_neg1 n (by omega) c2)
      go_enter Tryd.func15, Tryd.ntmps15
      go_wp2_with fail
      go_ret
      exact ⟨congrArg (fun s => Ending.returned (.string s)) E.out, bl_alloc (Below.refl _ _) _⟩
    by_cases c3 : n < 10
    · have K := conv_in (w.alloc (.cells #[.int .u8 (48 + n)] 5)) w.heap.size (48 + n) (by omega) (by omega) (new_cell w _)
      have E := Lib.hid (itoaS_one n (by omega) c3)
      go_enter Tryd.func15, Tryd.ntmps15
      go_wp2_with fail
      go_ret
      exact ⟨congrArg (fun s => Ending.returned (.string s)) E.out, bl_alloc (Below.refl _ _) _⟩
    · obtain ⟨d, hd⟩ : ∃ d, n.tdiv 10 = d := ⟨_, rfl⟩
      obtain ⟨r, hr⟩ : ∃ r, n.tmod 10 = r := ⟨_, rfl⟩
      obtain ⟨hf', hd0, hr0⟩ : d.natAbs < f ∧ (0 ≤ d ∧ d ≤ 9223372036854775807) ∧ (0 ≤ r ∧ r ≤ 9) := by
        have t := td_pos n (by omega)
        rw [hd, hr] at t
        omega
      have e1 := i64_wrap d (by omega) (by omega)
      have e3 := i64_wrap (48 + r) (by omega) (by omega)
      have e4 : IntKind.u8.wrap (48 + r) = 48 + r := by rw [IntKind.wrap_u8]; omega
      have K := conv_in (w.alloc (.cells #[.int .u8 (48 + r)] 5)).drew w.heap.size (48 + r) (by omega) (by omega) (new_cell w _)
      have E := Lib.hid (itoaS_pos n d r (by omega) hd hr)
      have hz := itoaS_size d (by omega) (by omega)
      have I := fun w => ih d w hf' (by omega) (by omega)
      generalize itoaS d = T at E hz I
      have II := Lib.hid I
      clear I
      have hs : (bStr [48 + r]).size = 1 := rfl
      go_enter Tryd.func15, Tryd.ntmps15
      go_wp2_with fail
      go_region_with (first | (go_at_call 15; refine (II.out _).mono ?_; rintro e w1 ⟨rfl, b1⟩; have K1 := conv_in (w1.alloc (.cells #[.int .u8 (48 + r)] 5)) w1.heap.size (48 + r) (by omega) (by omega) (new_cell w1 _); try have K2 := conv_in w1 w.heap.size (48 + r) (by omega) (by omega) ((b1.cell (show w.heap.size < _ by simp [World.drew])).trans (new_cell w _))))
      all_goals go_wp2_with fail
      all_goals go_ret
      all_goals exact ⟨congrArg (fun s => Ending.returned (.string s)) E.out, by repeat (first | exact Below.refl _ _ | refine bl_drewN ?_ _ | refine Below.drew ?_ | refine bl_alloc ?_ _ | refine bl_set ?_ (by simp) _ | refine bl_trans ?_ (by assumption))⟩

end Go.Proofs.YtjpefadalinhoaaDoor
