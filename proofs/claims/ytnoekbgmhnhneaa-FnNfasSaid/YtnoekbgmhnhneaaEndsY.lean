/- More on what a right expression means: its parts. No program in sight. -/
import Derived.Test.YtnoekbgmhnhneaaEndsX
import Derived.Test.YtnoekbgmhnhneaaQ1
import Derived.Test.YtnoekbgmhnhneaaEndsM
namespace Go.Proofs.Ytnoekbgmhnhneaa
open Go.RowKit

theorem okR_at {x : Fr (Int × ByteArray)} {i : Nat} {a : Int × ByteArray} {k : Fr (Int × ByteArray)} (h : okA x = true) (hd : x.drop i = .cons a k (x.drop (i + 1))) : hereB a.1 a.2 k = true ∧ okA k = true := by
  have hdr : ∀ (y : Fr (Int × ByteArray)) (i : Nat), okA y = true → okA (y.drop i) = true := by
    intro y
    induction y with
    | nil => intro i _; cases i <;> rfl
    | cons a k r _ ih2 =>
      intro i h
      cases i with
      | zero => rw [Fr.drop_zero]; exact h
      | succ i =>
        rw [okA, Bool.and_eq_true] at h
        exact ih2 i h.2
  have h1 := hdr x i h
  rw [hd, okA, Bool.and_eq_true, Bool.and_eq_true] at h1
  exact h1.1
theorem repR_len {k : Int} (hk : k = 6 ∨ k = 7 ∨ k = 8) {s : ByteArray} {kids : Fr (Int × ByteArray)} (h : hereB k s kids = true) : 0 < kids.len := by
  rw [here_rep hk] at h
  simp at h
  omega
theorem hdR_row {t : ByteArray} {x r k : Fr (Int × ByteArray)} {a : Int × ByteArray} (h : x = .cons a k r) : hdR (rowR t x) = relOf t a.1 a.2 (rowR t k) := by rw [h]; rfl
theorem cat_take {t : ByteArray} {x k : Fr (Int × ByteArray)} {i : Nat} {a : Int × ByteArray} (hi : i < x.len) (h : x.drop i = .cons a k (x.drop (i + 1))) : catR ((rowR t x).take (i + 1)) = compR (catR ((rowR t x).take i)) (relOf t a.1 a.2 (rowR t k)) := by
  unfold catR
  rw [fold_take (by rw [rowR_len]; exact hi), rowR_at hi h]
theorem alt_take {t : ByteArray} {x k : Fr (Int × ByteArray)} {i : Nat} {a : Int × ByteArray} (hi : i < x.len) (h : x.drop i = .cons a k (x.drop (i + 1))) : altR ((rowR t x).take (i + 1)) = orR (altR ((rowR t x).take i)) (relOf t a.1 a.2 (rowR t k)) := by
  unfold altR
  rw [fold_take (by rw [rowR_len]; exact hi), rowR_at hi h]
theorem wtR_at {x : Fr (Int × ByteArray)} {i : Nat} {a : (Int × ByteArray)} {k : Fr (Int × ByteArray)} (hd : x.drop i = .cons a k (x.drop (i + 1))) : a.2.size + wt gRex k ≤ wt gRex x := by
  have h := wt_drop gRex x i
  rw [hd] at h
  simp only [wt, gRex] at h
  omega
theorem bl_far {B C : Nat} {a b c : World} (h : Below B a b) (k : Below C b c) (hBC : B ≤ C) : Below B a c :=
  ⟨k.os.trans h.os, k.tape.trans h.tape, k.output.trans h.output, Nat.le_trans h.size k.size, fun i hi => (k.block i (by omega)).trans (h.block i hi)⟩

end Go.Proofs.Ytnoekbgmhnhneaa
