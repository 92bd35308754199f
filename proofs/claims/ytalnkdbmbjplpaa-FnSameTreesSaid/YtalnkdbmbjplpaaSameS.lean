/- Are two rows of statements the same. No program in sight. -/
import Derived.Test.YtalnkdbmbjplpaaTreeS
import Derived.Test.YtalnkdbmbjplpaaSame
namespace Go.Proofs.Ytalnkdbmbjplpaa
open Go.RowKit

/-- Are two statements' labels the same. -/
def labS (a b : Int × ByteArray × ByteArray) : Bool := a.1 == b.1 && a.2.1.toList == b.2.1.toList && a.2.2.toList == b.2.2.toList
/-- Are two rows of statements the same. -/
def sameS : St → St → Bool
  | .nil, .nil => true
  | .cons a x p q r, .cons b x' p' q' r' => (labS a b && (sameF x x' && (sameS p p' && sameS q q'))) && sameS r r'
  | .nil, .cons _ _ _ _ _ => false
  | .cons _ _ _ _ _, .nil => false
theorem sameS_len : ∀ (x y : St), x.len ≠ y.len → sameS x y = false
  | .nil, .nil, h => absurd rfl h
  | .cons a x p q r, .cons b x' p' q' r', h => by
    rw [sameS, sameS_len r r' (by simp only [St.len] at h; omega), Bool.and_false]
  | .nil, .cons _ _ _ _ _, _ => rfl
  | .cons _ _ _ _ _, .nil, _ => rfl
theorem sameS_drop_no {x y : St} {i : Nat} {a b : Int × ByteArray × ByteArray} {t t' : Fr (Int × Int × ByteArray)} {p q p' q' : St} (h : x.drop i = .cons a t p q (x.drop (i + 1))) (h' : y.drop i = .cons b t' p' q' (y.drop (i + 1))) (hn : (labS a b && (sameF t t' && (sameS p p' && sameS q q'))) = false) : sameS (x.drop i) (y.drop i) = false := by
  rw [h, h', sameS, hn, Bool.false_and]
theorem sameS_drop_yes {x y : St} {i : Nat} {a b : Int × ByteArray × ByteArray} {t t' : Fr (Int × Int × ByteArray)} {p q p' q' : St} (h : x.drop i = .cons a t p q (x.drop (i + 1))) (h' : y.drop i = .cons b t' p' q' (y.drop (i + 1))) (hn : (labS a b && (sameF t t' && (sameS p p' && sameS q q'))) = true) : sameS (x.drop i) (y.drop i) = sameS (x.drop (i + 1)) (y.drop (i + 1)) := by
  rw [h, h', sameS, hn, Bool.true_and]
theorem sameS_end {x y : St} (h : x.len = y.len) : sameS (x.drop x.len) (y.drop x.len) = true := by
  have := y.drop_all
  rw [← h] at this
  rw [x.drop_all, this]
  rfl

end Go.Proofs.Ytalnkdbmbjplpaa
