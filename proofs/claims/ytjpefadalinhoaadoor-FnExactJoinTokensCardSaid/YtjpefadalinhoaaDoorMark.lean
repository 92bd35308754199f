/- Walks over the marks: l7Mark of the reference, markAt of the program. A text's length is at most 1048576. -/
import Derived.Test.YtjpefadalinhoaaDoorTok
import Derived.Test.YtjpefadalinhoaaDoorList
import Derived.Test.YtjpefadalinhoaaDoorShelf
import Derived.Test.YtjpefadalinhoaaDoorShelfP
import Derived.Laws.DeepStrings4
namespace Go.Proofs.YtjpefadalinhoaaDoor
open Go.RowKit

def twos : List (List UInt8) := [[60, 61], [61, 61], [33, 61], [62, 61], [38, 38], [124, 124]]
def ones : List UInt8 := [123, 125, 40, 41, 91, 93, 44, 59, 36, 43, 45, 42, 47, 37, 46, 60, 62, 33, 126, 61]
/-- Is it a mark. -/
def mkL (l : List UInt8) : Bool := twos.contains l || (match l with | [c] => ones.contains c | _ => false)
theorem mkL_two {l t : List UInt8} (ht : t ∈ twos) (h : (l == t) = true) : mkL l = true := by
  have := eq_of_beq h
  subst this
  unfold mkL
  rw [List.contains_iff_mem.2 ht]
  rfl
theorem one_at (j : Nat) (hj : j < 20) : ∃ c, ones[j]? = some c ∧ (ByteArray.extract ⟨#[123, 125, 40, 41, 91, 93, 44, 59, 36, 43, 45, 42, 47, 37, 46, 60, 62, 33, 126, 61]⟩ j (j + 1)).toList = [c] := by
  refine ⟨ones[j]'hj, List.getElem?_eq_getElem _, ?_⟩
  rw [Lib.toList_data, Lib.extract_data]
  exact (show ∀ j : Fin 20, (ones.drop j).take (j + 1 - j) = [ones[j]'(by exact j.2)] by decide) ⟨j, hj⟩
theorem mkL_one {l : List UInt8} {j : Nat} (hj : j < 20) (h : (l == (ByteArray.extract ⟨#[123, 125, 40, 41, 91, 93, 44, 59, 36, 43, 45, 42, 47, 37, 46, 60, 62, 33, 126, 61]⟩ j (j + 1)).toList) = true) : mkL l = true := by
  obtain ⟨c, hc, e⟩ := one_at j hj
  rw [e] at h
  have := eq_of_beq h
  subst this
  unfold mkL
  simp only [List.contains_iff_mem.2 (List.mem_of_getElem? hc), Bool.or_true]
theorem mkL_none {l : List UInt8} (h1 : ∀ t ∈ twos, (l == t) = false) (h2 : ∀ j, j < 20 → (l == (ByteArray.extract ⟨#[123, 125, 40, 41, 91, 93, 44, 59, 36, 43, 45, 42, 47, 37, 46, 60, 62, 33, 126, 61]⟩ j (j + 1)).toList) = false) : mkL l = false := by
  cases h : mkL l with
  | false => rfl
  | true =>
    unfold mkL at h
    rw [Bool.or_eq_true] at h
    rcases h with h | h
    · have := h1 l (List.contains_iff_mem.1 h)
      simp at this
    · split at h
      · rename_i c
        obtain ⟨j, hj, e⟩ := List.getElem_of_mem (List.contains_iff_mem.1 h)
        obtain ⟨c', hc, e'⟩ := one_at j hj
        have := h2 j hj
        rw [e'] at this
        rw [List.getElem?_eq_getElem hj] at hc
        injection hc with hc
        rw [← hc, e] at this
        simp at this
      · cases h

set_option maxHeartbeats 2000000 in
theorem sMark (s : ByteArray) (w : World) :
    Calls Tryd.prog 23 #[.string s] w fun e w' => e = .returned (.bool (mkL s.toList)) ∧ w' = w := by
  cases t0 : (s.toList == [60, 61])
  rotate_left
  · have E := Lib.hid (mkL_two (l := s.toList) (t := [60, 61]) (by decide) t0)
    go_enter Tryd.func23, Tryd.ntmps23
    go_wp2_with fail
    go_ret
    exact ⟨ret_bool E.out.symm, rfl⟩
  cases t1 : (s.toList == [61, 61])
  rotate_left
  · have E := Lib.hid (mkL_two (l := s.toList) (t := [61, 61]) (by decide) t1)
    go_enter Tryd.func23, Tryd.ntmps23
    go_wp2_with fail
    go_ret
    exact ⟨ret_bool E.out.symm, rfl⟩
  cases t2 : (s.toList == [33, 61])
  rotate_left
  · have E := Lib.hid (mkL_two (l := s.toList) (t := [33, 61]) (by decide) t2)
    go_enter Tryd.func23, Tryd.ntmps23
    go_wp2_with fail
    go_ret
    exact ⟨ret_bool E.out.symm, rfl⟩
  cases t3 : (s.toList == [62, 61])
  rotate_left
  · have E := Lib.hid (mkL_two (l := s.toList) (t := [62, 61]) (by decide) t3)
    go_enter Tryd.func23, Tryd.ntmps23
    go_wp2_with fail
    go_ret
    exact ⟨ret_bool E.out.symm, rfl⟩
  cases t4 : (s.toList == [38, 38])
  rotate_left
  · have E := Lib.hid (mkL_two (l := s.toList) (t := [38, 38]) (by decide) t4)
    go_enter Tryd.func23, Tryd.ntmps23
    go_wp2_with fail
    go_ret
    exact ⟨ret_bool E.out.symm, rfl⟩
  cases t5 : (s.toList == [124, 124])
  rotate_left
  · have E := Lib.hid (mkL_two (l := s.toList) (t := [124, 124]) (by decide) t5)
    go_enter Tryd.func23, Tryd.ntmps23
    go_wp2_with fail
    go_ret
    exact ⟨ret_bool E.out.symm, rfl⟩
  have E0 := fun h2 => Lib.hid (mkL_none (l := s.toList) (by
    intro t ht
    simp only [twos, List.mem_cons, List.not_mem_nil, or_false] at ht
    rcases ht with rfl | rfl | rfl | rfl | rfl | rfl <;> assumption) h2)
  have E1 := fun j hj h => Lib.hid (mkL_one (l := s.toList) (j := j) hj h)
  generalize mkL s.toList = R at E0 E1 ⊢
  go_enter Tryd.func23, Tryd.ntmps23
  go_wp2_with fail
  go_loop [3] (fun i => ∃ k : Nat, k ≤ 20 ∧ i = .int .i64 k ∧ ∀ j, j < k → (s.toList == (ByteArray.extract ⟨#[123, 125, 40, 41, 91, 93, 44, 59, 36, 43, 45, 42, 47, 37, 46, 60, 62, 33, 126, 61]⟩ j (j + 1)).toList) = false) (fun i => 20 - (intOf i).toNat)
  case atStart => exact ⟨0, Nat.zero_le _, rfl, fun j h => by omega⟩
  case round =>
    obtain ⟨k, hk, rfl, hN⟩ := hrel
    have HN := Lib.hid hN
    clear hN
    by_cases hlt : (k : Int) < 20
    · have hkn : k < 20 := by omega
      clear E0
      cases h1 : (s.toList == (ByteArray.extract ⟨#[123, 125, 40, 41, 91, 93, 44, 59, 36, 43, 45, 42, 47, 37, 46, 60, 62, 33, 126, 61]⟩ k (k + 1)).toList)
      · clear E1
        have e1 : ((k : Int) + 1).toNat = k + 1 := by omega
        go_wp2_with fail
        go_round
        case rel => exact ⟨k + 1, by omega, by go_num, fun j hj => by
          rcases Nat.lt_or_ge j k with h2 | h2
          · exact HN.out j h2
          · obtain rfl : j = k := by omega
            exact h1⟩
        case measure => simp [intOf]; omega
      · have E := E1 k hkn h1
        clear E1
        have e1 : ((k : Int) + 1).toNat = k + 1 := by omega
        go_wp2_with fail
        go_ret
        exact ⟨ret_bool E.out.symm, rfl⟩
    · obtain rfl : k = 20 := by omega
      have E := E0 HN.out
      clear E0 E1 HN
      go_wp2_with fail
      go_ret
      exact ⟨ret_bool E.out.symm, rfl⟩

end Go.Proofs.YtjpefadalinhoaaDoor
