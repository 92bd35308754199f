/- Is a machine right. No program in sight. -/
import Derived.Test.YtnoekbgmhnhneaaNodeS
import Derived.Test.YtnoekbgmhnhneaaQ0
import Derived.Lib.Strings
namespace Go.Proofs.Ytnoekbgmhnhneaa
open Go.RowKit

/-- Is a node of a machine of n nodes right. -/
def nodeB (n : Int) (t : Int × ByteArray × Int × Int) : Bool :=
  if t.1 = 1 then inI t.2.2.1 0 (n - 1) && (t.2.2.2 == 0 && t.2.1.size == 1)
  else if t.1 = 3 then inI t.2.2.1 0 (n - 1) && (t.2.2.2 == 0 && !t.2.1.toList.isEmpty)
  else if t.1 = 2 ∨ t.1 = 5 ∨ t.1 = 6 then inI t.2.2.1 0 (n - 1) && (t.2.2.2 == 0 && t.2.1.toList.isEmpty)
  else if t.1 = 4 then inI t.2.2.1 0 (n - 1) && (inI t.2.2.2 0 (n - 1) && t.2.1.toList.isEmpty)
  else t.1 == 7 && (t.2.2.1 == 0 && (t.2.2.2 == 0 && t.2.1.toList.isEmpty))
theorem nd_byte (n : Int) (s : ByteArray) (a b : Int) : nodeB n (1, s, a, b) = (inI a 0 (n - 1) && (b == 0 && s.size == 1)) := rfl
theorem nd_set (n : Int) (s : ByteArray) (a b : Int) : nodeB n (3, s, a, b) = (inI a 0 (n - 1) && (b == 0 && !s.toList.isEmpty)) := rfl
theorem nd_leaf {k : Int} (h : k = 2 ∨ k = 5 ∨ k = 6) (n : Int) (s : ByteArray) (a b : Int) : nodeB n (k, s, a, b) = (inI a 0 (n - 1) && (b == 0 && s.toList.isEmpty)) := by rcases h with rfl | rfl | rfl <;> rfl
theorem nd_split (n : Int) (s : ByteArray) (a b : Int) : nodeB n (4, s, a, b) = (inI a 0 (n - 1) && (inI b 0 (n - 1) && s.toList.isEmpty)) := rfl
theorem nd_else {k : Int} (h : ∀ j ∈ ([1, 3, 2, 5, 6, 4] : List Int), k ≠ j) (n : Int) (s : ByteArray) (a b : Int) : nodeB n (k, s, a, b) = (k == 7 && (a == 0 && (b == 0 && s.toList.isEmpty))) := by
  unfold nodeB
  simp only
  rw [if_neg (h 1 (by simp)), if_neg (h 3 (by simp)), if_neg, if_neg (h 4 (by simp))]
  rintro (e | e | e)
  · exact h 2 (by simp) e
  · exact h 5 (by simp) e
  · exact h 6 (by simp) e
/-- Is the last one the end. -/
def lastB (zs : List (Int × ByteArray × Int × Int)) : Bool := if h : 0 < zs.length then (zs[zs.length - 1]'(by omega)).1 == 7 else false
theorem lastB_is {zs : List (Int × ByteArray × Int × Int)} (h : 0 < zs.length) : lastB zs = ((zs[zs.length - 1]'(by omega)).1 == 7) := by unfold lastB; rw [dif_pos h]
/-- Is a machine right. -/
def nfaB (zs : List (Int × ByteArray × Int × Int)) : Bool := zs.all (nodeB zs.length) && (inI zs.length 1 300 && lastB zs)
theorem all_step {zs : List (Int × ByteArray × Int × Int)} {f : Int × ByteArray × Int × Int → Bool} {k : Nat} (h : k < zs.length) : (zs.drop k).all f = (f zs[k] && (zs.drop (k + 1)).all f) := by
  rw [List.drop_eq_getElem_cons h, List.all_cons]
theorem emp_size {s : ByteArray} (h : s.toList.isEmpty = true) : s.size = 0 := by
  rw [Lib.toList_data] at h
  have := Lib.size_eq s
  cases hd : s.data.toList with
  | nil => rw [hd] at this; exact this
  | cons a l => rw [hd] at h; cases h
theorem full_size {s : ByteArray} (h : s.toList.isEmpty = false) : 0 < s.size := by
  rw [Lib.toList_data] at h
  have := Lib.size_eq s
  cases hd : s.data.toList with
  | nil => rw [hd] at h; cases h
  | cons a l => rw [hd, List.length_cons] at this; omega

end Go.Proofs.Ytnoekbgmhnhneaa
