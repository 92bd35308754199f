/- Where a machine goes on with a byte. No program in sight. -/
import Derived.Test.YtnoekbgmhnhneaaQ1
import Derived.Test.YtnoekbgmhnhneaaNfaB
import Derived.Test.YtnoekbgmhnhneaaEndsS
namespace Go.Proofs.Ytnoekbgmhnhneaa
open Go.RowKit

/-- Does a node take a byte. -/
def ndTk (x : (Int × ByteArray × Int × Int)) (c : Int) : Bool := x.1 == 2 || ((x.1 == 1 || x.1 == 3) && hasB x.2.1 c)
/-- The node at a number. -/
def ndAt (zs : List (Int × ByteArray × Int × Int)) (k : Int) : (Int × ByteArray × Int × Int) := zs.getD k.toNat (0, ⟨#[]⟩, 0, 0)
theorem ndAt_get {zs : List (Int × ByteArray × Int × Int)} {k : Int} (h : k.toNat < zs.length) : zs[k.toNat] = ndAt zs k := by
  unfold ndAt
  rw [List.getD_eq_getElem?_getD, List.getElem?_eq_getElem h]
  rfl
/-- Where it goes on from one node. -/
def onF (zs : List (Int × ByteArray × Int × Int)) (c : Int) (k : Int) : Option Int := if inI k 0 ((zs.length : Int) - 1) = true then (if ndTk (ndAt zs k) c = true then some (ndAt zs k).2.2.1 else none) else none
def onW (zs : List (Int × ByteArray × Int × Int)) (c : Int) (l : List Int) : List Int := l.filterMap (onF zs c)
theorem onW_succ (zs : List (Int × ByteArray × Int × Int)) (c : Int) {l : List Int} {k : Nat} (h : k < l.length) : onW zs c (l.take (k + 1)) = onW zs c (l.take k) ++ (onF zs c l[k]).toList := by
  unfold onW
  rw [List.take_succ_eq_append_getElem h, List.filterMap_append]
  congr 1

theorem onW_len (zs : List (Int × ByteArray × Int × Int)) (c : Int) (l : List Int) : (onW zs c l).length ≤ l.length := List.length_filterMap_le _ _
/-- The rising row of these. -/
def OnR (zs : List (Int × ByteArray × Int × Int)) (c : Int) (l : List Int) (R : List Int) : Prop := Ris R ∧ (∀ x, x ∈ R ↔ x ∈ onW zs c l) ∧ R.length ≤ l.length
theorem OnR.same {zs : List (Int × ByteArray × Int × Int)} {c : Int} {l R S : List Int} (h : OnR zs c l R) (k : OnR zs c l S) : R = S := ris_same h.1 k.1 fun x => (h.2.1 x).trans (k.2.1 x).symm
theorem OnR.zero (zs : List (Int × ByteArray × Int × Int)) (c : Int) (l : List Int) : OnR zs c (l.take 0) [] := ⟨List.Pairwise.nil, fun x => by simp [onW], by simp⟩
theorem OnR.skip {zs : List (Int × ByteArray × Int × Int)} {c : Int} {l R : List Int} {k : Nat} (h : OnR zs c (l.take k) R) (hk : k < l.length) (hn : onF zs c l[k] = none) : OnR zs c (l.take (k + 1)) R := by
  refine ⟨h.1, fun x => ?_, ?_⟩
  · rw [onW_succ zs c hk, hn]
    simpa using h.2.1 x
  · have := h.2.2
    rw [List.length_take] at this ⊢
    omega
theorem OnR.put {zs : List (Int × ByteArray × Int × Int)} {c : Int} {l R S : List Int} {k : Nat} {n : Int} (h : OnR zs c (l.take k) R) (hk : k < l.length) (hn : onF zs c l[k] = some n) (hp : PutZ R n S) : OnR zs c (l.take (k + 1)) S := by
  refine ⟨hp.1, fun x => ?_, ?_⟩
  · rw [onW_succ zs c hk, hn, hp.2.1 x, h.2.1 x]
    simp
  · have h1 := h.2.2
    have h2 := hp.2.2
    rw [List.length_take] at h1 ⊢
    omega
theorem onF_out {zs : List (Int × ByteArray × Int × Int)} {c k : Int} (h : inI k 0 ((zs.length : Int) - 1) = false) : onF zs c k = none := by
  unfold onF
  rw [h]
  rfl
theorem onF_no {zs : List (Int × ByteArray × Int × Int)} {c k : Int} (h : ndTk (ndAt zs k) c = false) : onF zs c k = none := by
  unfold onF
  rw [h]
  simp
theorem onF_yes {zs : List (Int × ByteArray × Int × Int)} {c k : Int} (h0 : inI k 0 ((zs.length : Int) - 1) = true) (h : ndTk (ndAt zs k) c = true) : onF zs c k = some (ndAt zs k).2.2.1 := by
  unfold onF
  rw [h0, h]
  rfl

end Go.Proofs.Ytnoekbgmhnhneaa
