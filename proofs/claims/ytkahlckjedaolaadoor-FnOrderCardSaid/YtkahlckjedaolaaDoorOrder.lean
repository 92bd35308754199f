/- Plain law: of two values one is less, or they are the same. No program in sight. -/
import Derived.Test.YtkahlckjedaolaaDoorCmp
namespace Go.Proofs.YtkahlckjedaolaaDoor
open Go.RowKit

theorem less_three : ∀ x y : List UInt8, (Op.bytesLess x y = true ∧ Op.bytesLess y x = false ∧ (x == y) = false) ∨ (Op.bytesLess x y = false ∧ Op.bytesLess y x = true ∧ (x == y) = false) ∨ (Op.bytesLess x y = false ∧ Op.bytesLess y x = false ∧ (x == y) = true)
  | [], [] => .inr (.inr ⟨rfl, rfl, rfl⟩)
  | [], _ :: _ => .inl ⟨rfl, rfl, rfl⟩
  | _ :: _, [] => .inr (.inl ⟨rfl, rfl, rfl⟩)
  | a :: x, b :: y => by
    rcases (show a < b ∨ a = b ∨ b < a by
      rcases Nat.lt_trichotomy a.toNat b.toNat with h | h | h
      · exact .inl (UInt8.lt_iff_toNat_lt.2 h)
      · exact .inr (.inl (UInt8.toNat_inj.1 h))
      · exact .inr (.inr (UInt8.lt_iff_toNat_lt.2 h))) with h | h | h
    · have h' : ¬ b < a := UInt8.lt_asymm h
      have hne : a ≠ b := UInt8.ne_of_lt h
      exact .inl ⟨by simp [Op.bytesLess, h], by simp [Op.bytesLess, h', hne.symm], by simp [hne]⟩
    · subst h
      have hs : ¬ a < a := UInt8.lt_irrefl a
      rcases less_three x y with ⟨h1, h2, h3⟩ | ⟨h1, h2, h3⟩ | ⟨h1, h2, h3⟩
      · exact .inl ⟨by simp [Op.bytesLess, h1], by simp [Op.bytesLess, h2, hs], by simpa using h3⟩
      · exact .inr (.inl ⟨by simp [Op.bytesLess, h1, hs], by simp [Op.bytesLess, h2], by simpa using h3⟩)
      · exact .inr (.inr ⟨by simp [Op.bytesLess, h1, hs], by simp [Op.bytesLess, h2, hs], by simpa using h3⟩)
    · have h' : ¬ a < b := UInt8.lt_asymm h
      have hne : a ≠ b := (UInt8.ne_of_lt h).symm
      exact .inr (.inl ⟨by simp [Op.bytesLess, h', hne], by simp [Op.bytesLess, h], by simp [hne]⟩)
theorem val_three (k n : Int) (s : ByteArray) (k' n' : Int) (s' : ByteArray) :
    (vLess k n s k' n' s' = true ∧ vLess k' n' s' k n s = false ∧ vSame k n s k' n' s' = false) ∨ (vLess k n s k' n' s' = false ∧ vLess k' n' s' k n s = true ∧ vSame k n s k' n' s' = false) ∨
    (vLess k n s k' n' s' = false ∧ vLess k' n' s' k n s = false ∧ vSame k n s k' n' s' = true) := by
  unfold vLess vSame
  by_cases h : k = 2 ∨ k' = 2
  · rw [if_pos h, if_pos (Or.symm h), if_pos h]
    exact less_three _ _
  · rw [if_neg h, if_neg (fun e => h (Or.symm e)), if_neg h]
    rcases Int.lt_trichotomy n n' with h1 | h1 | h1
    · exact .inl ⟨by simpa using h1, by simp; omega, by simp; omega⟩
    · exact .inr (.inr ⟨by simp; omega, by simp; omega, by simpa using h1⟩)
    · exact .inr (.inl ⟨by simp; omega, by simpa using h1, by simp; omega⟩)

end Go.Proofs.YtkahlckjedaolaaDoor
