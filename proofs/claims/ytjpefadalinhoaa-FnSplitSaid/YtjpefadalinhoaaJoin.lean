/- Walks over JoinTexts, the program's and the reference's. The texts' lengths are at most 1048576 together. -/
import Derived.Test.YtjpefadalinhoaaStrS
import Derived.Test.YtjpefadalinhoaaShelf
import Derived.Lib.Join
import Derived.Lib.Bytealg
namespace Go.Proofs.Ytjpefadalinhoaa
open Go.RowKit

theorem bs_append (l m : List UInt8) : (⟨l.toArray⟩ : ByteArray) ++ ⟨m.toArray⟩ = ⟨(l ++ m).toArray⟩ := by
  apply ByteArray.ext
  rw [ByteArray.data_append]
  simp
theorem bs_self (x : ByteArray) : x = ⟨x.data.toList.toArray⟩ := by cases x; simp
/-- The first k texts joined. -/
def jn (xs : List ByteArray) (k : Nat) : ByteArray := ⟨(Lib.join ((xs.map (·.data.toList)).take k) [32]).toArray⟩
theorem jn_zero (xs : List ByteArray) : jn xs 0 = ⟨#[]⟩ := rfl
theorem jn_one (xs : List ByteArray) (h : 0 < xs.length) : (⟨#[]⟩ : ByteArray) ++ xs[0] = jn xs 1 := by
  match xs, h with
  | x :: r, _ =>
    unfold jn
    rw [bs_self (x :: r)[0], show (⟨#[]⟩ : ByteArray) = ⟨([] : List UInt8).toArray⟩ from rfl, bs_append]
    simp [Lib.join]
theorem jn_succ (xs : List ByteArray) (k : Nat) (hk : k < xs.length) (h0 : 0 < k) : jn xs k ++ ⟨#[32]⟩ ++ xs[k] = jn xs (k + 1) := by
  match xs, hk with
  | x :: r, hk =>
    obtain ⟨j, rfl⟩ : ∃ j, k = j + 1 := ⟨k - 1, by omega⟩
    have hj : j < r.length := by simpa using hk
    unfold jn
    rw [bs_self (x :: r)[j + 1], show (⟨#[32]⟩ : ByteArray) = ⟨[(32 : UInt8)].toArray⟩ from rfl, bs_append, bs_append]
    congr 2
    simp only [List.map_cons, List.take_succ_cons, List.getElem_cons_succ]
    rw [Lib.join_cons, Lib.join_cons, List.take_add_one, List.getElem?_map, List.getElem?_eq_getElem hj]
    unfold Lib.joinTail
    simp
theorem jn_all (xs : List ByteArray) : jn xs xs.length = ⟨(Lib.join (xs.map (·.data.toList)) [32]).toArray⟩ := by
  unfold jn
  rw [List.take_of_length_le (by simp)]
theorem ja_append_size (a b : ByteArray) : (a ++ b).size = a.size + b.size := ByteArray.size_append

set_option maxHeartbeats 1000000 in
theorem sJoin (A : Option Addr) (c : Nat) (zs : List ByteArray) (w : World) (hR : Reads w w.heap.size 1 A zs.length (sVs zs)) (hn : zs.length + sumL zs ≤ 1048576) :
    Calls Try.prog 22 #[.slice A zs.length c] w fun e w' => e = .returned (.string (jn zs zs.length)) ∧ Below w.heap.size w w' := by
  go_enter Try.func22, Try.ntmps22
  go_wp2_with fail
  go_loopw [3, 4] (fun sv i wr => ∃ (k : Nat) (a : ByteArray), k ≤ zs.length ∧ i = .int .i64 k ∧ sv = .string a ∧ jn zs k = a ∧ a.size + sumL (zs.drop k) ≤ sumL zs + k ∧ Below w.heap.size w wr) (fun _ i _ => zs.length - (intOf i).toNat)
  case atStart => exact ⟨0, _, Nat.zero_le _, rfl, rfl, jn_zero zs, by simp [ByteArray.size], Below.refl _ _⟩
  case round =>
    obtain ⟨k, a, hk, rfl, rfl, ha, hs, hL⟩ := hrel
    by_cases hlt : k < zs.length
    · obtain ⟨b, off, rfl, hb, hcell⟩ := rd_atS (hR.below hL) hlt
      have hlt' : (k : Int) < (zs.length : Int) := by omega
      rw [sumL_drop zs k hlt] at hs
      by_cases h0 : 0 < k
      · have H := Lib.hid (jn_succ zs k hlt h0)
        rw [ha] at H
        have h0' : (0 : Int) < k := by omega
        clear ha
        have hz : (a ++ (⟨#[32]⟩ : ByteArray)).size = a.size + 1 := ja_append_size _ _
        have hzz := ja_append_size (a ++ (⟨#[32]⟩ : ByteArray)) zs[k]
        generalize zs[k] = z at *
        have HZ := Lib.hid hzz
        clear hzz
        go_wp2_with fail
        go_roundw
        case rel => exact ⟨k + 1, _, by omega, by go_num, rfl, H.out.symm, by rw [HZ.out, hz]; omega, hL⟩
        case measure => simp [intOf]; omega
      · obtain rfl : k = 0 := by omega
        have H := Lib.hid (jn_one zs hlt)
        rw [jn_zero] at ha
        subst ha
        rw [Nat.add_zero] at hcell
        have hzz := ja_append_size (⟨#[]⟩ : ByteArray) zs[0]
        generalize zs[0] = z at *
        have HZ := Lib.hid hzz
        clear hzz
        go_wp2_with fail
        go_roundw
        case rel => exact ⟨1, _, by omega, by go_num, rfl, H.out.symm, by rw [HZ.out]; have e0 : (⟨#[]⟩ : ByteArray).size = 0 := rfl; simp only [Nat.zero_add] at hs; omega, hL⟩
        case measure => simp [intOf]; omega
    · obtain rfl : k = zs.length := by omega
      have H := Lib.hid ha
      clear ha
      go_wp2_with fail
      go_ret
      exact ⟨ret_str H.out.symm, hL⟩

theorem jn_len (xs : List ByteArray) : ∀ k, k ≤ xs.length → (jn xs k).size + sumL (xs.drop k) ≤ sumL xs + k := by
  intro k
  induction k with
  | zero => intro _; rw [jn_zero]; simp [ByteArray.size]
  | succ k ih =>
    intro hk
    have := ih (by omega)
    rw [sumL_drop xs k (by omega)] at this
    by_cases h0 : 0 < k
    · rw [← jn_succ xs k (by omega) h0, ja_append_size, ja_append_size]
      have : (⟨#[32]⟩ : ByteArray).size = 1 := rfl
      omega
    · obtain rfl : k = 0 := by omega
      rw [← jn_one xs (by omega), ja_append_size]
      have : (⟨#[]⟩ : ByteArray).size = 0 := rfl
      omega
set_option maxHeartbeats 400000 in
theorem iJoin (A : Option Addr) (c : Nat) (zs : List ByteArray) (w : World) (hR : Reads w w.heap.size 1 A zs.length (sVs zs)) (hc : zs.length ≤ c) (hn : zs.length + sumL zs ≤ 1048576) :
    Calls Try.prog 24 #[.slice A zs.length c] w fun e w' => e = .returned (.string (jn zs zs.length)) ∧ Below w.heap.size w w' := by
  have C : Calls Try.prog 48 #[.slice A zs.length c, .string ⟨#[32]⟩] w fun e w' => e = .returned (.string (jn zs zs.length)) ∧ Below w.heap.size w w' := by
    rw [jn_all]
    have hl := jn_len zs zs.length (Nat.le_refl _)
    rw [jn_all, List.drop_length] at hl
    rcases Nat.eq_zero_or_pos zs.length with h0 | h0
    · have hz : zs = [] := List.eq_nil_of_length_eq_zero h0
      subst hz
      exact (Try.strings_Join_none A c ⟨#[32]⟩ w).mono fun e w' ⟨he, hw⟩ => ⟨he, hw ▸ Below.refl _ _⟩
    · obtain ⟨b, off, rfl, hb, hx⟩ := hR.2 h0
      exact Try.strings_Join b off c zs ⟨#[32]⟩ w (fun j x hj => hx j (.string x) (by unfold sVs; rw [List.getElem?_map, hj]; rfl)) hb (by omega) hc (by
        have : (⟨(Lib.join (zs.map (·.data.toList)) [32]).toArray⟩ : ByteArray).size = (Lib.join (zs.map (·.data.toList)) [32]).length := by simp [ByteArray.size]
        rw [this] at hl
        show (Lib.join (zs.map (·.data.toList)) [32]).length ≤ _
        simp [sumL] at hl
        simp [sumL] at hn
        omega)
  generalize jn zs zs.length = R at C ⊢
  have CC := Lib.hid C
  clear C
  go_enter Try.func24, Try.ntmps24
  go_wp2_with fail
  refine CC.out.mono ?_; rintro e w1 ⟨rfl, b1⟩
  go_wp2_with fail
  go_ret
  exact ⟨rfl, b1⟩

end Go.Proofs.Ytjpefadalinhoaa
