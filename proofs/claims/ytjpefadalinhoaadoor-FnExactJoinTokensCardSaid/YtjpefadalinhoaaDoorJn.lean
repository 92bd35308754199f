/- Texts joined by blanks. No program in sight. -/
import Derived.Test.YtjpefadalinhoaaDoorStrB
import Derived.Lib.Join
namespace Go.Proofs.YtjpefadalinhoaaDoor
open Go.RowKit

theorem bs_append (l m : List UInt8) : (⟨l.toArray⟩ : ByteArray) ++ ⟨m.toArray⟩ = ⟨(l ++ m).toArray⟩ := by
  apply ByteArray.ext
  rw [ByteArray.data_append]
  simp
theorem bs_self (x : ByteArray) : x = ⟨x.data.toList.toArray⟩ := by cases x; simp
/-- The first k texts joined. -/
def jn (xs : List ByteArray) (k : Nat) : ByteArray := ⟨(Lib.join ((xs.map (·.data.toList)).take k) [32]).toArray⟩
theorem jn_zero (xs : List ByteArray) : jn xs 0 = ⟨#[]⟩ := rfl
theorem jn_one (xs : List ByteArray) (h : 0 < xs.length) : (⟨#[]⟩ : ByteArray) ++ xs[0] = jn xs 1 := by
  match xs, h with
  | x :: r, _ =>
    unfold jn
    rw [bs_self (x :: r)[0], show (⟨#[]⟩ : ByteArray) = ⟨([] : List UInt8).toArray⟩ from rfl, bs_append]
    simp [Lib.join]
theorem jn_succ (xs : List ByteArray) (k : Nat) (hk : k < xs.length) (h0 : 0 < k) : jn xs k ++ ⟨#[32]⟩ ++ xs[k] = jn xs (k + 1) := by
  match xs, hk with
  | x :: r, hk =>
    obtain ⟨j, rfl⟩ : ∃ j, k = j + 1 := ⟨k - 1, by omega⟩
    have hj : j < r.length := by simpa using hk
    unfold jn
    rw [bs_self (x :: r)[j + 1], show (⟨#[32]⟩ : ByteArray) = ⟨[(32 : UInt8)].toArray⟩ from rfl, bs_append, bs_append]
    congr 2
    simp only [List.map_cons, List.take_succ_cons, List.getElem_cons_succ]
    rw [Lib.join_cons, Lib.join_cons, List.take_add_one, List.getElem?_map, List.getElem?_eq_getElem hj]
    unfold Lib.joinTail
    simp
theorem jn_all (xs : List ByteArray) : jn xs xs.length = ⟨(Lib.join (xs.map (·.data.toList)) [32]).toArray⟩ := by
  unfold jn
  rw [List.take_of_length_le (by simp)]
theorem ja_append_size (a b : ByteArray) : (a ++ b).size = a.size + b.size := ByteArray.size_append

theorem jn_len (xs : List ByteArray) : ∀ k, k ≤ xs.length → (jn xs k).size + sumL (xs.drop k) ≤ sumL xs + k := by
  intro k
  induction k with
  | zero => intro _; rw [jn_zero]; simp [ByteArray.size]
  | succ k ih =>
    intro hk
    have := ih (by omega)
    rw [sumL_drop xs k (by omega)] at this
    by_cases h0 : 0 < k
    · rw [← jn_succ xs k (by omega) h0, ja_append_size, ja_append_size]
      have : (⟨#[32]⟩ : ByteArray).size = 1 := rfl
      omega
    · obtain rfl : k = 0 := by omega
      rw [← jn_one xs (by omega), ja_append_size]
      have : (⟨#[]⟩ : ByteArray).size = 0 := rfl
      omega

end Go.Proofs.YtjpefadalinhoaaDoor
