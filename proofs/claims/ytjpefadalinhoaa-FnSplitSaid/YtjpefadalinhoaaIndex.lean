/- Walks over IndexOf, the program's and the reference's. A text's length is at most 1048576. -/
import Derived.Test.YtjpefadalinhoaaBase
import Derived.Lib.RabinKarpLaws
import Derived.Laws.DeepStrings4
namespace Go.Proofs.Ytjpefadalinhoaa
open Go.RowKit

/-- The first k places are none. -/
def notYet (s t : ByteArray) (k : Nat) : Prop := ∀ j, j < k → Lib.occAt s.data.toList t.data.toList j = false
theorem notYet.zero (s t : ByteArray) : notYet s t 0 := fun j h => by omega
theorem notYet.succ {s t : ByteArray} {k : Nat} (h : notYet s t k) (hk : k + t.size ≤ s.size) (hc : ((s.extract k (k + t.size)).toList == t.toList) = false) : notYet s t (k + 1) := fun j hj => by
  rcases Nat.lt_or_ge j k with h1 | h1
  · exact h j h1
  · obtain rfl : j = k := by omega
    exact Go.Proofs.occ_no s t j hk hc
theorem notYet.found {s t : ByteArray} {k : Nat} (h : notYet s t k) (hk : k + t.size ≤ s.size) (hc : ((s.extract k (k + t.size)).toList == t.toList) = true) : Lib.index s.data.toList t.data.toList = k :=
  Lib.index_first (by rw [← Lib.size_eq]; omega) (Go.Proofs.occ_yes s t k hk hc) h
theorem notYet.none {s t : ByteArray} {k : Nat} (h : notYet s t k) (hk : s.size < k + t.size) (h0 : k ≤ s.size → 0 < t.size) : Lib.index s.data.toList t.data.toList = -1 := by
  refine Lib.index_none fun j hj => ?_
  rcases Nat.lt_or_ge j k with h1 | h1
  · exact h j h1
  · cases hc : Lib.occAt s.data.toList t.data.toList j with
    | false => rfl
    | true =>
      have := Lib.occAt_room hc
      rw [← Lib.size_eq] at hj
      rcases this with h2 | h2
      · rw [← Lib.size_eq, ← Lib.size_eq] at h2; omega
      · have : t.size = 0 := by rw [Lib.size_eq, h2]; rfl
        have := h0 (by omega)
        omega

theorem notYet.empty {s t : ByteArray} {k : Nat} (hk : k + t.size ≤ s.size) (hc : ((s.extract k (k + t.size)).toList == t.toList) = false) (h : t.size = 0) : False := by
  have h1 := Go.Proofs.occ_no s t k hk hc
  have h2 : t.data.toList = [] := List.eq_nil_of_length_eq_zero (by rw [← Lib.size_eq]; exact h)
  rw [h2] at h1
  unfold Lib.occAt at h1
  simp at h1

set_option maxHeartbeats 1000000 in
theorem sIndexOf (s t : ByteArray) (w : World) (hs : s.size ≤ 1048576) (ht : t.size ≤ 1048576) :
    Calls Try.prog 19 #[.string s, .string t] w fun e w' => e = .returned (.int .i64 (Lib.index s.data.toList t.data.toList + 1)) ∧ w' = w := by
  have E1 := fun k (h : notYet s t k) a b => Lib.hid (h.found a b)
  have E2 := fun k (h : notYet s t k) a b => Lib.hid (h.none a b)
  generalize Lib.index s.data.toList t.data.toList = R at E1 E2 ⊢
  go_enter Try.func19, Try.ntmps19
  go_wp2_with fail
  go_loop [5] (fun i => ∃ k : Nat, k ≤ s.size + 1 ∧ (t.size = 0 → k ≤ s.size) ∧ i = .int .i64 k ∧ notYet s t k) (fun i => s.size + 1 - (intOf i).toNat)
  case atStart => exact ⟨0, Nat.zero_le _, fun _ => Nat.zero_le _, rfl, notYet.zero _ _⟩
  case round =>
    obtain ⟨k, hk, hk0, rfl, hN⟩ := hrel
    by_cases hlt : (k : Int) ≤ (s.size : Int) - t.size
    · have hkn : k + t.size ≤ s.size := by omega
      have e1 : ((k : Int) + (t.size : Int)).toNat = k + t.size := by omega
      have HN := Lib.hid hN
      clear hN E2
      cases h1 : ((s.extract k (k + t.size)).toList == t.toList)
      · have H := Lib.hid (HN.out.succ hkn h1)
        clear E1 HN
        go_wp2_with fail
        have hz := Lib.hid (notYet.empty hkn h1)
        go_round
        case rel => exact ⟨k + 1, by omega, fun h => (hz.out h).elim, by go_num, H.out⟩
        case measure => simp [intOf]; omega
      · have E := E1 k HN.out hkn h1
        clear E1 HN
        go_wp2_with fail
        go_ret
        exact ⟨ret_int (by rw [E.out]), rfl⟩
    · have E := E2 k hN (by omega) (fun _ => by omega)
      clear E1 E2 hN
      go_wp2_with fail
      go_ret
      exact ⟨ret_int (by rw [E.out]; rfl), rfl⟩

end Go.Proofs.Ytjpefadalinhoaa
