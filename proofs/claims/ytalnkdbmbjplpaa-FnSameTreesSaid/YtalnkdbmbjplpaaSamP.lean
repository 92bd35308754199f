/- Are two programs the same; what stands at a place of a row of rules, of functions, of texts. No program in sight. -/
import Derived.Test.YtalnkdbmbjplpaaP10a
import Derived.Test.YtalnkdbmbjplpaaSameS
namespace Go.Proofs.Ytalnkdbmbjplpaa
open Go.RowKit

/-- Are two lists the same, element by element. -/
def sameL {α : Type} (f : α → α → Bool) : List α → List α → Bool
  | [], [] => true
  | x :: r, y :: s => f x y && sameL f r s
  | [], _ :: _ => false
  | _ :: _, [] => false
theorem sameL_len {α : Type} {f : α → α → Bool} : ∀ (x y : List α), x.length ≠ y.length → sameL f x y = false
  | [], [], h => absurd rfl h
  | x :: r, y :: s, h => by rw [sameL, sameL_len r s (by simpa using h), Bool.and_false]
  | [], _ :: _, _ => rfl
  | _ :: _, [], _ => rfl
theorem sameL_no {α : Type} {f : α → α → Bool} {x y : List α} {i : Nat} (hx : i < x.length) (hy : i < y.length) (h : f x[i] y[i] = false) : sameL f (x.drop i) (y.drop i) = false := by
  rw [List.drop_eq_getElem_cons hx, List.drop_eq_getElem_cons hy, sameL, h, Bool.false_and]
theorem sameL_yes {α : Type} {f : α → α → Bool} {x y : List α} {i : Nat} (hx : i < x.length) (hy : i < y.length) (h : f x[i] y[i] = true) : sameL f (x.drop i) (y.drop i) = sameL f (x.drop (i + 1)) (y.drop (i + 1)) := by
  rw [List.drop_eq_getElem_cons hx, List.drop_eq_getElem_cons hy, sameL, h, Bool.true_and]
theorem sameL_end {α : Type} {f : α → α → Bool} {x y : List α} (h : x.length = y.length) : sameL f (x.drop x.length) (y.drop x.length) = true := by
  rw [List.drop_length, h, List.drop_length]
  rfl
def strB (a b : ByteArray) : Bool := a.toList == b.toList
/-- Are two rules the same. -/
def rulB (x y : TR) : Bool := x.1 == y.1 && ((labB x.2.1 y.2.1 && sameF x.2.2.1 y.2.2.1) && sameS x.2.2.2 y.2.2.2)
/-- Are two functions the same. -/
def funB (x y : TF) : Bool := strB x.1 y.1 && (sameL strB x.2.1 y.2.1 && sameS x.2.2 y.2.2)
section
variable {w : World} {P : Nat → Prop} {A : Option Addr}
theorem RulP.at_ {L : List TR} (h : RulP w P A L) {i : Nat} (hi : i < L.length) : ∃ b o X cx Y cy, A = some ⟨b, o, none⟩ ∧ P b ∧ SlP exprC w P X L[i].2.2.1 ∧ SlSP w P Y L[i].2.2.2 ∧
    ∀ j u, (rlC (L[i].1, L[i].2.1, .slice X L[i].2.2.1.len cx, .slice Y L[i].2.2.2.len cy))[j]? = some u → w.cell? ⟨b, o + i * 6 + j, none⟩ = some u := by
  obtain ⟨b, o, l, e, h1, h2, h3⟩ := h (by omega)
  obtain ⟨X, cx, Y, cy, hl, hX, hY⟩ := h2.2 i hi
  refine ⟨b, o, X, cx, Y, cy, e, h1, hX, hY, fun j u hu => ?_⟩
  have hil : i < l.length := by rw [h2.1]; exact hi
  have hj : j < 6 := by
    rcases Nat.lt_or_ge j 6 with h | h
    · exact h
    · rw [List.getElem?_eq_none (by exact h)] at hu; cases hu
  have hlx : l[i] = (L[i].1, L[i].2.1, .slice X L[i].2.2.1.len cx, .slice Y L[i].2.2.2.len cy) := by
    rw [List.getElem?_eq_getElem hil] at hl
    exact Option.some.inj hl
  rw [Nat.add_assoc]
  exact h3 (i * 6 + j) u (by rw [flat_get rlC_len l i hil j hj, hlx]; exact hu)
theorem FunP.at_ {L : List TF} (h : FunP w P A L) {i : Nat} (hi : i < L.length) : ∃ b o N cn Y cy, A = some ⟨b, o, none⟩ ∧ P b ∧ StrP w P N L[i].2.1 ∧ SlSP w P Y L[i].2.2 ∧
    ∀ j u, (fnC (L[i].1, .slice N L[i].2.1.length cn, .slice Y L[i].2.2.len cy))[j]? = some u → w.cell? ⟨b, o + i * 3 + j, none⟩ = some u := by
  obtain ⟨b, o, l, e, h1, h2, h3⟩ := h (by omega)
  obtain ⟨X, cx, Y, cy, hl, hX, hY⟩ := h2.2 i hi
  refine ⟨b, o, X, cx, Y, cy, e, h1, hX, hY, fun j u hu => ?_⟩
  have hil : i < l.length := by rw [h2.1]; exact hi
  have hj : j < 3 := by
    rcases Nat.lt_or_ge j 3 with h | h
    · exact h
    · rw [List.getElem?_eq_none (by exact h)] at hu; cases hu
  have hlx : l[i] = (L[i].1, .slice X L[i].2.1.length cx, .slice Y L[i].2.2.len cy) := by
    rw [List.getElem?_eq_getElem hil] at hl
    exact Option.some.inj hl
  rw [Nat.add_assoc]
  exact h3 (i * 3 + j) u (by rw [flat_get fnC_len l i hil j hj, hlx]; exact hu)
theorem StrP.at_ {ss : List ByteArray} (h : StrP w P A ss) {i : Nat} (hi : i < ss.length) : ∃ b o, A = some ⟨b, o, none⟩ ∧ P b ∧ w.cell? ⟨b, o + i, none⟩ = some (.string ss[i]) := by
  obtain ⟨b, o, e, h1, h2⟩ := h (by omega)
  exact ⟨b, o, e, h1, h2 i _ (by rw [List.getElem?_map, List.getElem?_eq_getElem hi]; rfl)⟩
end

end Go.Proofs.Ytalnkdbmbjplpaa
