/- Rows of structs: elements of some cells each, laid one behind the other. No program in sight but the world's rows. -/
import Derived.Test.YtalnkdbmbjplpaaRow
import Derived.Test.YtalnkdbmbjplpaaByteP
namespace Go.Proofs.Ytalnkdbmbjplpaa
open Go.RowKit

/-- The elements' cells, one behind the other. -/
def flat {α : Type} (f : α → List Value) (l : List α) : List Value := l.flatMap f
theorem flat_nil {α : Type} (f : α → List Value) : flat f [] = [] := rfl
theorem flat_cons {α : Type} (f : α → List Value) (a : α) (l : List α) : flat f (a :: l) = f a ++ flat f l := by simp [flat]
theorem flat_snoc {α : Type} (f : α → List Value) (l : List α) (a : α) : flat f l ++ f a = flat f (l ++ [a]) := by simp [flat]
theorem flat_len {α : Type} {f : α → List Value} {m : Nat} (hm : ∀ a, (f a).length = m) (l : List α) : (flat f l).length = l.length * m := by
  induction l with
  | nil => simp [flat]
  | cons a l ih => rw [flat_cons, List.length_append, hm, ih, List.length_cons, Nat.succ_mul, Nat.add_comm]
theorem flat_get {α : Type} {f : α → List Value} {m : Nat} (hm : ∀ a, (f a).length = m) (l : List α) (i : Nat) (hi : i < l.length) (c : Nat) (hc : c < m) : (flat f l)[i * m + c]? = (f l[i])[c]? := by
  induction l generalizing i with
  | nil => simp at hi
  | cons a l ih =>
    rw [flat_cons]
    cases i with
    | zero => rw [Nat.zero_mul, Nat.zero_add, List.getElem?_append_left (by rw [hm]; exact hc)]; rfl
    | succ i =>
      have hi' : i < l.length := by simpa using hi
      have e : (i + 1) * m + c = m + (i * m + c) := by rw [Nat.succ_mul]; omega
      rw [e, List.getElem?_append_right (by rw [hm]; omega), hm, Nat.add_sub_cancel_left, ih i hi']
      rfl
theorem rd_flat {α : Type} {f : α → List Value} {m : Nat} (hm : ∀ a, (f a).length = m) {w : World} {B : Nat} {A : Option Addr} {l : List α} (h : Reads w B m A l.length (flat f l)) {i : Nat} (hi : i < l.length) :
    ∃ b off, A = some ⟨b, off, none⟩ ∧ b < B ∧ ∀ c u, (f l[i])[c]? = some u → w.cell? ⟨b, off + i * m + c, none⟩ = some u := by
  obtain ⟨b, off, e, hb, hc⟩ := h.2 (by omega)
  refine ⟨b, off, e, hb, fun c u hu => ?_⟩
  have hcm : c < m := by
    rcases Nat.lt_or_ge c (f l[i]).length with h1 | h1
    · rw [hm] at h1; exact h1
    · rw [List.getElem?_eq_none h1] at hu; cases hu
  have := hc (i * m + c) u (by rw [flat_get hm l i hi c hcm]; exact hu)
  rw [← Nat.add_assoc] at this
  exact this
/-- The first k of the one, then the other's. -/
def uptoG {α : Type} (zs ys : List α) (k : Nat) : List α := zs.take k ++ ys.drop k
theorem uptoG_zero {α : Type} (zs ys : List α) : uptoG zs ys 0 = ys := by simp [uptoG]
theorem uptoG_all {α : Type} (zs ys : List α) (h : zs.length = ys.length) : uptoG zs ys zs.length = zs := by simp [uptoG, List.drop_eq_nil_of_le (show ys.length ≤ zs.length by omega)]
theorem uptoG_len {α : Type} (zs ys : List α) (k : Nat) (h : zs.length = ys.length) (hk : k ≤ zs.length) : (uptoG zs ys k).length = zs.length := by simp [uptoG]; omega
theorem uptoG_succ {α : Type} (zs ys : List α) (k : Nat) (hl : zs.length = ys.length) (hk : k < zs.length) : (uptoG zs ys k).set k zs[k] = uptoG zs ys (k + 1) := by
  unfold uptoG
  apply List.ext_getElem?
  intro j
  rw [List.getElem?_set]
  have h1 : (List.take k zs).length = k := by rw [List.length_take]; omega
  have h2 : (List.take (k + 1) zs).length = k + 1 := by rw [List.length_take]; omega
  by_cases hj : k = j
  · subst hj
    rw [if_pos rfl, if_pos (by rw [List.length_append, h1, List.length_drop]; omega), List.getElem?_append_left (by rw [h2]; omega), List.getElem?_take, if_pos (by omega), List.getElem?_eq_getElem hk]
  · rw [if_neg hj]
    rcases Nat.lt_or_ge j k with h | h
    · rw [List.getElem?_append_left (by rw [h1]; exact h), List.getElem?_append_left (by rw [h2]; omega), List.getElem?_take, List.getElem?_take, if_pos h, if_pos (by omega)]
    · rw [List.getElem?_append_right (by rw [h1]; omega), List.getElem?_append_right (by rw [h2]; omega), h1, h2, List.getElem?_drop, List.getElem?_drop]
      congr 1
      omega
theorem own_blk {w : World} {lo size : Nat} {A : Option Addr} {c : Nat} {e : TypeId} {n : Nat} {xs : List Value} (h : w.ownsRow lo e size (.slice A n c) n xs) (hn : 0 < n) :
    ∃ g, A = some ⟨g, 0, none⟩ ∧ lo ≤ g ∧ g < w.heap.size := by
  rcases h.2 with ⟨h', h0⟩ | ⟨g, cap, cur, h', hg, _⟩
  · simp only [Value.slice.injEq] at h'; omega
  · simp only [Value.slice.injEq, true_and] at h'
    obtain ⟨rfl, rfl⟩ := h'
    exact ⟨g, rfl, hg, (h.lt g rfl).2⟩

theorem len_3 {l : List Value} (h : l.length = 3) : ∃ x0 x1 x2, l = [x0, x1, x2] := by
  match l, h with
  | [x0, x1, x2], _ => exact ⟨x0, x1, x2, rfl⟩
theorem flat_set3 {α : Type} {f : α → List Value} (hm : ∀ a, (f a).length = 3) (a : α) {v0 v1 v2 : Value} (hf : f a = [v0, v1, v2]) : ∀ (l : List α) (k : Nat), k < l.length →
    (((flat f l).set (k * 3) v0).set (k * 3 + 1) v1).set (k * 3 + 2) v2 = flat f (l.set k a)
  | [], k, h => by simp at h
  | b :: l, 0, _ => by
    obtain ⟨x0, x1, x2, hb⟩ := len_3 (hm b)
    rw [List.set_cons_zero, flat_cons, flat_cons, hb, hf]
    rfl
  | b :: l, k + 1, h => by
    obtain ⟨x0, x1, x2, hb⟩ := len_3 (hm b)
    have ih := flat_set3 hm a hf l k (by simpa using h)
    rw [List.set_cons_succ, flat_cons, flat_cons, hb, ← ih, Nat.succ_mul]
    rfl

theorem len_4 {l : List Value} (h : l.length = 4) : ∃ x0 x1 x2 x3, l = [x0, x1, x2, x3] := by
  match l, h with
  | [x0, x1, x2, x3], _ => exact ⟨x0, x1, x2, x3, rfl⟩
theorem flat_set4 {α : Type} {f : α → List Value} (hm : ∀ a, (f a).length = 4) (a : α) {v0 v1 v2 v3 : Value} (hf : f a = [v0, v1, v2, v3]) : ∀ (l : List α) (k : Nat), k < l.length →
    ((((flat f l).set (k * 4) v0).set (k * 4 + 1) v1).set (k * 4 + 2) v2).set (k * 4 + 3) v3 = flat f (l.set k a)
  | [], k, h => by simp at h
  | b :: l, 0, _ => by
    obtain ⟨x0, x1, x2, x3, hb⟩ := len_4 (hm b)
    rw [List.set_cons_zero, flat_cons, flat_cons, hb, hf]
    rfl
  | b :: l, k + 1, h => by
    obtain ⟨x0, x1, x2, x3, hb⟩ := len_4 (hm b)
    have ih := flat_set4 hm a hf l k (by simpa using h)
    rw [List.set_cons_succ, flat_cons, flat_cons, hb, ← ih, Nat.succ_mul]
    rfl

theorem len_6 {l : List Value} (h : l.length = 6) : ∃ x0 x1 x2 x3 x4 x5, l = [x0, x1, x2, x3, x4, x5] := by
  match l, h with
  | [x0, x1, x2, x3, x4, x5], _ => exact ⟨x0, x1, x2, x3, x4, x5, rfl⟩
theorem flat_set6 {α : Type} {f : α → List Value} (hm : ∀ a, (f a).length = 6) (a : α) {v0 v1 v2 v3 v4 v5 : Value} (hf : f a = [v0, v1, v2, v3, v4, v5]) : ∀ (l : List α) (k : Nat), k < l.length →
    ((((((flat f l).set (k * 6) v0).set (k * 6 + 1) v1).set (k * 6 + 2) v2).set (k * 6 + 3) v3).set (k * 6 + 4) v4).set (k * 6 + 5) v5 = flat f (l.set k a)
  | [], k, h => by simp at h
  | b :: l, 0, _ => by
    obtain ⟨x0, x1, x2, x3, x4, x5, hb⟩ := len_6 (hm b)
    rw [List.set_cons_zero, flat_cons, flat_cons, hb, hf]
    rfl
  | b :: l, k + 1, h => by
    obtain ⟨x0, x1, x2, x3, x4, x5, hb⟩ := len_6 (hm b)
    have ih := flat_set6 hm a hf l k (by simpa using h)
    rw [List.set_cons_succ, flat_cons, flat_cons, hb, ← ih, Nat.succ_mul]
    rfl

end Go.Proofs.Ytalnkdbmbjplpaa
