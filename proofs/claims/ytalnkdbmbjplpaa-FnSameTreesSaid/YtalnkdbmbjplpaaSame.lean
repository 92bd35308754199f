/- Are two rows of terms the same. No program in sight. -/
import Derived.Test.YtalnkdbmbjplpaaExprB
namespace Go.Proofs.Ytalnkdbmbjplpaa
open Go.RowKit

/-- Are two terms' labels the same. -/
def labB (a b : Int × Int × ByteArray) : Bool := a.1 == b.1 && a.2.1 == b.2.1 && a.2.2.toList == b.2.2.toList
/-- Are two rows the same. -/
def sameF : Fr (Int × Int × ByteArray) → Fr (Int × Int × ByteArray) → Bool
  | .nil, .nil => true
  | .cons a k r, .cons b k' r' => (labB a b && sameF k k') && sameF r r'
  | .nil, .cons _ _ _ => false
  | .cons _ _ _, .nil => false
theorem sameF_len : ∀ (x y : Fr (Int × Int × ByteArray)), x.len ≠ y.len → sameF x y = false
  | .nil, .nil, h => absurd rfl h
  | .cons a k r, .cons b k' r', h => by
    rw [sameF, sameF_len r r' (by simp only [Fr.len] at h; omega), Bool.and_false]
  | .nil, .cons _ _ _, _ => rfl
  | .cons _ _ _, .nil, _ => rfl
theorem sameF_drop_no {x y : Fr (Int × Int × ByteArray)} {i : Nat} {a b : Int × Int × ByteArray} {k k' : Fr (Int × Int × ByteArray)} (h : x.drop i = .cons a k (x.drop (i + 1))) (h' : y.drop i = .cons b k' (y.drop (i + 1))) (hn : (labB a b && sameF k k') = false) : sameF (x.drop i) (y.drop i) = false := by
  rw [h, h', sameF, hn, Bool.false_and]
theorem sameF_drop_yes {x y : Fr (Int × Int × ByteArray)} {i : Nat} {a b : Int × Int × ByteArray} {k k' : Fr (Int × Int × ByteArray)} (h : x.drop i = .cons a k (x.drop (i + 1))) (h' : y.drop i = .cons b k' (y.drop (i + 1))) (hn : (labB a b && sameF k k') = true) : sameF (x.drop i) (y.drop i) = sameF (x.drop (i + 1)) (y.drop (i + 1)) := by
  rw [h, h', sameF, hn, Bool.true_and]
theorem sameF_end {x y : Fr (Int × Int × ByteArray)} (h : x.len = y.len) : sameF (x.drop x.len) (y.drop x.len) = true := by
  have := y.drop_all
  rw [← h] at this
  rw [x.drop_all, this]
  rfl

end Go.Proofs.Ytalnkdbmbjplpaa
