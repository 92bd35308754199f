/- Lists of texts in memory, and what is left behind their sizes. No program in sight but the types. -/
import Derived.Test.YtnoekbgmhnhneaaByteP
namespace Go.Proofs.Ytnoekbgmhnhneaa
open Go.RowKit

def sVs (xs : List ByteArray) : List Value := xs.map Value.string
theorem info_str : (Try.prog.info? 9).map (fun i => (i.zero, i.size, i.bytes)) = some (some (.string ⟨#[]⟩), 1, 16) := by kernel_rfl
/-- It hands back new texts of which R holds. -/
def RetSs (R : List ByteArray → Prop) (w : World) (e : Ending) (w' : World) : Prop := ∃ (v : Value) (zs : List ByteArray), e = .returned v ∧ R zs ∧ Row w' w.heap.size w'.heap.size 9 1 v zs.length (sVs zs)
theorem sVs_len (zs : List ByteArray) : (sVs zs).length = zs.length := by simp [sVs]
theorem sVs_get (zs : List ByteArray) (k : Nat) (hk : k < zs.length) : (sVs zs)[k]? = some (.string zs[k]) := by simp [sVs, hk]
theorem rd_atS {w : World} {B : Nat} {A : Option Addr} {zs : List ByteArray} (h : Reads w B 1 A zs.length (sVs zs)) {k : Nat} (hk : k < zs.length) :
    ∃ b off, A = some ⟨b, off, none⟩ ∧ b < B ∧ w.cell? ⟨b, off + k, none⟩ = some (.string zs[k]) := by
  obtain ⟨b, off, u, e, hb, hu, hc⟩ := h.at_ hk
  rw [sVs_get zs k hk] at hu
  cases hu
  exact ⟨b, off, e, hb, hc⟩
/-- The first k of one, the rest of another. -/
def uptoS (zs ys : List ByteArray) (k : Nat) : List ByteArray := zs.take k ++ ys.drop k
theorem uptoS_zero (zs ys : List ByteArray) : uptoS zs ys 0 = ys := by simp [uptoS]
theorem uptoS_all (zs ys : List ByteArray) (h : ys.length ≤ zs.length) (_ : zs.length = ys.length) : uptoS zs ys zs.length = zs := by simp [uptoS, List.drop_eq_nil_of_le h]
theorem uptoS_len (zs ys : List ByteArray) (k : Nat) (h : zs.length = ys.length) (hk : k ≤ zs.length) : (uptoS zs ys k).length = ys.length := by simp [uptoS]; omega
theorem uptoS_succ (zs ys : List ByteArray) (k : Nat) (hl : zs.length = ys.length) (hk : k < zs.length) : (sVs (uptoS zs ys k)).set k (.string zs[k]) = sVs (uptoS zs ys (k + 1)) := by
  apply List.ext_getElem?
  intro j
  have hkl : k < (sVs (uptoS zs ys k)).length := by rw [sVs_len, uptoS_len _ _ _ hl (by omega)]; omega
  by_cases e : j = k
  · subst e
    rw [List.getElem?_set_self hkl]
    unfold sVs uptoS
    rw [List.getElem?_map, List.getElem?_append_left (by simp; omega), List.getElem?_take, if_pos (by omega), List.getElem?_eq_getElem hk]
    rfl
  · rw [List.getElem?_set_ne (by omega)]
    unfold sVs uptoS
    rw [List.getElem?_map, List.getElem?_map]
    congr 1
    by_cases l : j < k
    · rw [List.getElem?_append_left (by simp; omega), List.getElem?_append_left (by simp; omega), List.getElem?_take, List.getElem?_take, if_pos l, if_pos (by omega)]
    · rw [List.getElem?_append_right (by simp; omega), List.getElem?_append_right (by simp; omega), List.getElem?_drop, List.getElem?_drop]
      simp only [List.length_take]
      congr 1
      omega
theorem uptoS_get (zs ys : List ByteArray) (k : Nat) (h : zs.length = ys.length) (hk : k < zs.length) : (sVs (uptoS zs ys k))[k]? = some (.string (ys[k]'(by omega))) := by
  unfold sVs uptoS
  rw [List.getElem?_map, List.getElem?_append_right (by simp; omega), List.getElem?_drop]
  have e : k + (k - (List.take k zs).length) = k := by simp; omega
  rw [e, List.getElem?_eq_getElem (by omega)]
  rfl

/-- What is left behind the texts' sizes; -1: too little. -/
def szL : Int → List ByteArray → Int
  | left, [] => left
  | left, x :: r => if left - x.size < 0 then -1 else szL (left - x.size) r
def szS (left : Int) (xs : List ByteArray) : Int := if left - xs.length < 0 then -1 else szL (left - xs.length) xs
theorem szL_drop (xs : List ByteArray) (k : Nat) (left : Int) (hk : k < xs.length) : szL left (xs.drop k) = if left - xs[k].size < 0 then -1 else szL (left - xs[k].size) (xs.drop (k + 1)) := by
  rw [List.drop_eq_getElem_cons hk]
  rfl
def sumL (xs : List ByteArray) : Nat := (xs.map ByteArray.size).sum
theorem szL_sum : ∀ (xs : List ByteArray) (left : Int), ¬ szL left xs < 0 → (sumL xs : Int) ≤ left
  | [], left, h => by simp [sumL]; unfold szL at h; omega
  | x :: r, left, h => by
    unfold szL at h
    split at h
    · omega
    · have := szL_sum r _ h
      simp [sumL] at this ⊢
      omega
theorem szS_sum (xs : List ByteArray) (left : Int) (h : ¬ szS left xs < 0) : (xs.length : Int) + (sumL xs : Int) ≤ left := by
  unfold szS at h
  split at h
  · omega
  · have := szL_sum xs _ h
    omega
theorem sumL_drop (xs : List ByteArray) (k : Nat) (hk : k < xs.length) : sumL (xs.drop k) = xs[k].size + sumL (xs.drop (k + 1)) := by
  rw [List.drop_eq_getElem_cons hk]
  unfold sumL
  rw [List.map_cons, List.sum_cons]


end Go.Proofs.Ytnoekbgmhnhneaa
