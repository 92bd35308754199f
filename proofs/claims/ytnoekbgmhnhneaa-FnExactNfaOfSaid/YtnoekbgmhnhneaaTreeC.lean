/- Rows of trees in memory, as in Tree, where each slice's length is within its capacity. No program in sight but the world's cells. -/
import Derived.Test.YtnoekbgmhnhneaaOw
namespace Go.Proofs.Ytnoekbgmhnhneaa
open Go.RowKit

section
variable {α : Type} (f : α → List Value) (w : World) (lo hi : Nat)
/-- The row's cells stand behind block b's place off; the blocks of all that lies within are from lo up to hi; lengths are within capacities. -/
def FrInC : Fr α → Nat → Nat → Prop
  | .nil, _, _ => True
  | .cons a kids rest, b, off =>
    (∃ A c, kids.len ≤ c ∧ (∀ j u, (f a ++ [Value.slice A kids.len c])[j]? = some u → w.cell? ⟨b, off + j, none⟩ = some u) ∧
      (0 < kids.len → ∃ b' o', A = some ⟨b', o', none⟩ ∧ lo ≤ b' ∧ b' < hi ∧ FrInC kids b' o')) ∧
    FrInC rest b (off + ((f a).length + 1))
/-- A slice value that holds the row. -/
def SlC (A : Option Addr) (fr : Fr α) : Prop := 0 < fr.len → ∃ b o, A = some ⟨b, o, none⟩ ∧ lo ≤ b ∧ b < hi ∧ FrInC f w lo hi fr b o
end
section
variable {α : Type} {f : α → List Value} {w w' : World} {lo hi lo' hi' m : Nat}
theorem FrInC.to : ∀ (fr : Fr α) (b off : Nat), FrInC f w lo hi fr b off → FrIn f w lo hi fr b off
  | .nil, _, _, _ => trivial
  | .cons a kids rest, b, off, h => by
    obtain ⟨⟨A, c, _, hc, hk'⟩, hr⟩ := h
    refine ⟨⟨A, c, hc, fun hp => ?_⟩, FrInC.to rest b _ hr⟩
    obtain ⟨b', o', e, q1, q2, hi2⟩ := hk' hp
    exact ⟨b', o', e, q1, q2, FrInC.to kids b' o' hi2⟩
theorem SlC.to {A : Option Addr} {fr : Fr α} (h : SlC f w lo hi A fr) : Sl f w lo hi A fr := fun hp => by
  obtain ⟨b, o, e, h1, h2, h3⟩ := h hp
  exact ⟨b, o, e, h1, h2, FrInC.to fr b o h3⟩
theorem FrInC.keep (hk : ∀ p : Addr, lo ≤ p.block → p.block < hi → w'.cell? p = w.cell? p) (hl : lo' ≤ lo) (hh : hi ≤ hi') : ∀ (fr : Fr α) (b off : Nat), lo ≤ b → b < hi → FrInC f w lo hi fr b off → FrInC f w' lo' hi' fr b off
  | .nil, _, _, _, _, _ => trivial
  | .cons a kids rest, b, off, h1, h2, h => by
    obtain ⟨⟨A, c, h0, hc, hk'⟩, hr⟩ := h
    refine ⟨⟨A, c, h0, fun j u hu => (hk ⟨b, off + j, none⟩ h1 h2).trans (hc j u hu), fun hp => ?_⟩, FrInC.keep hk hl hh rest b _ h1 h2 hr⟩
    obtain ⟨b', o', e, q1, q2, hi2⟩ := hk' hp
    exact ⟨b', o', e, by omega, by omega, FrInC.keep hk hl hh kids b' o' q1 q2 hi2⟩
theorem SlC.keep {A : Option Addr} {fr : Fr α} (h : SlC f w lo hi A fr) (hk : ∀ p : Addr, lo ≤ p.block → p.block < hi → w'.cell? p = w.cell? p) (hl : lo' ≤ lo) (hh : hi ≤ hi') : SlC f w' lo' hi' A fr := fun hp => by
  obtain ⟨b, o, e, h1, h2, h3⟩ := h hp
  exact ⟨b, o, e, by omega, by omega, FrInC.keep hk hl hh fr b o h1 h2 h3⟩
theorem SlC.below {A : Option Addr} {fr : Fr α} (h : SlC f w lo hi A fr) {B : Nat} (hb : Below B w w') (hB : hi ≤ B) : SlC f w' lo hi A fr := h.keep (fun _ _ h2 => hb.cell (by omega)) (Nat.le_refl _) (Nat.le_refl _)
theorem SlC.more {A : Option Addr} {fr : Fr α} (h : SlC f w lo hi A fr) (hl : lo' ≤ lo) (hh : hi ≤ hi') : SlC f w lo' hi' A fr := h.keep (fun _ _ _ => rfl) hl hh
theorem SlC.setb {A : Option Addr} {fr : Fr α} (h : SlC f w lo hi A fr) {b j : Nat} (hp : b < lo ∨ hi ≤ b) (u : Value) : SlC f (w.setCell ⟨b, j, none⟩ u) lo hi A fr :=
  h.keep (fun q h1 h2 => World.cell?_setCell_other w ⟨b, j, none⟩ q u (fun e => by subst e; simp only at h1 h2; omega)) (Nat.le_refl _) (Nat.le_refl _)
theorem FrInC.drop (hf : ∀ a, (f a).length + 1 = m) : ∀ (fr : Fr α) (i b off : Nat), FrInC f w lo hi fr b off → FrInC f w lo hi (fr.drop i) b (off + i * m)
  | fr, 0, b, off, h => by rw [Fr.drop_zero, Nat.zero_mul, Nat.add_zero]; exact h
  | .nil, i + 1, b, off, _ => trivial
  | .cons a k r, i + 1, b, off, h => by
    have := FrInC.drop hf r i b _ h.2
    rw [hf a] at this
    rw [Nat.succ_mul, Nat.add_comm (i * m), ← Nat.add_assoc]
    exact this
/-- What stands at place i of a row. -/
theorem SlC.at_ (hf : ∀ a, (f a).length + 1 = m) {A : Option Addr} {fr : Fr α} (h : SlC f w lo hi A fr) {i : Nat} (hi' : i < fr.len) :
    ∃ b o a kids A' c', A = some ⟨b, o, none⟩ ∧ lo ≤ b ∧ b < hi ∧ fr.drop i = .cons a kids (fr.drop (i + 1)) ∧ kids.size < fr.size ∧ kids.len ≤ c' ∧
      (∀ j u, (f a ++ [Value.slice A' kids.len c'])[j]? = some u → w.cell? ⟨b, o + i * m + j, none⟩ = some u) ∧ SlC f w lo hi A' kids := by
  obtain ⟨b, o, e, h1, h2, h3⟩ := h (by omega)
  obtain ⟨a, kids, hd⟩ := fr.drop_at i hi'
  have h4 := FrInC.drop hf fr i b o h3
  rw [hd] at h4
  obtain ⟨⟨A', c', h0, hc, hs⟩, _⟩ := h4
  have := fr.drop_size i
  rw [hd] at this
  exact ⟨b, o, a, kids, A', c', e, h1, h2, hd, by simp only [Fr.size] at this; omega, h0, hc, hs⟩
/-- The first k places of a list of labels and slices are the row's. -/
def FitsC (f : α → List Value) (w : World) (lo hi : Nat) (fr : Fr α) (l : List (α × Value)) (k : Nat) : Prop :=
  ∀ i, i < k → ∃ a kids A c, fr.drop i = .cons a kids (fr.drop (i + 1)) ∧ l[i]? = some (a, .slice A kids.len c) ∧ kids.len ≤ c ∧ SlC f w lo hi A kids
theorem FitsC.zero (fr : Fr α) (l : List (α × Value)) : FitsC f w lo hi fr l 0 := fun i h => by omega
theorem FitsC.keep {fr : Fr α} {l : List (α × Value)} {k : Nat} (h : FitsC f w lo hi fr l k) (hk : ∀ p : Addr, lo ≤ p.block → p.block < hi → w'.cell? p = w.cell? p) (hl : lo' ≤ lo) (hh : hi ≤ hi') : FitsC f w' lo' hi' fr l k := fun i hi0 => by
  obtain ⟨a, kids, A, c, h1, h2, h0, h3⟩ := h i hi0
  exact ⟨a, kids, A, c, h1, h2, h0, h3.keep hk hl hh⟩
theorem FitsC.setb {fr : Fr α} {l : List (α × Value)} {k : Nat} (h : FitsC f w lo hi fr l k) {b j : Nat} (hp : b < lo ∨ hi ≤ b) (u : Value) : FitsC f (w.setCell ⟨b, j, none⟩ u) lo hi fr l k :=
  h.keep (fun q h1 h2 => World.cell?_setCell_other w ⟨b, j, none⟩ q u (fun e => by subst e; simp only at h1 h2; omega)) (Nat.le_refl _) (Nat.le_refl _)
theorem FitsC.set_ {fr : Fr α} {l : List (α × Value)} {k : Nat} (h : FitsC f w lo hi fr l k) (hk : k < l.length) {a : α} {kids : Fr α} {A : Option Addr} {c : Nat} (hd : fr.drop k = .cons a kids (fr.drop (k + 1))) (h0 : kids.len ≤ c) (hS : SlC f w lo hi A kids) :
    FitsC f w lo hi fr (l.set k (a, .slice A kids.len c)) (k + 1) := fun i hi0 => by
  by_cases hik : i = k
  · subst hik
    exact ⟨a, kids, A, c, hd, by rw [List.getElem?_set_self (by omega)], h0, hS⟩
  · obtain ⟨a', kids', A', c', h1, h2, h00, h3⟩ := h i (by omega)
    exact ⟨a', kids', A', c', h1, by rw [List.getElem?_set_ne (by omega)]; exact h2, h00, h3⟩
theorem FrInC.of_fits : ∀ (fr : Fr α) (l : List (α × Value)) (b off : Nat), l.length = fr.len → FitsC f w lo hi fr l fr.len → (∀ j u, (flat (rC f) l)[j]? = some u → w.cell? ⟨b, off + j, none⟩ = some u) → FrInC f w lo hi fr b off
  | .nil, _, _, _, _, _, _ => trivial
  | .cons a k r, [], _, _, h, _, _ => by simp [Fr.len] at h
  | .cons a k r, x :: l, b, off, h, hF, hc => by
    obtain ⟨a', k', A, c, h1, h2, h0, h3⟩ := hF 0 (by simp [Fr.len])
    rw [Fr.drop_zero] at h1
    injection h1 with e1 e2 e3
    subst e1 e2
    simp only [List.getElem?_cons_zero, Option.some.injEq] at h2
    subst h2
    rw [flat_cons] at hc
    have hl : (rC f (a, Value.slice A k.len c)).length = (f a).length + 1 := by simp [rC]
    refine ⟨⟨A, c, h0, fun j u hu => hc j u ?_, h3⟩, ?_⟩
    · have hj : j < (rC f (a, Value.slice A k.len c)).length := by
        rcases Nat.lt_or_ge j (rC f (a, Value.slice A k.len c)).length with h | h
        · exact h
        · exact absurd hu (by rw [show (f a ++ [Value.slice A k.len c])[j]? = none from List.getElem?_eq_none h]; simp)
      rw [List.getElem?_append_left hj]
      exact hu
    · refine FrInC.of_fits r l b _ (by simpa [Fr.len] using h) (fun i hi' => ?_) (fun j u hu => ?_)
      · obtain ⟨a', k', A', c', h1, h2, h00, h3⟩ := hF (i + 1) (by simp [Fr.len]; exact hi')
        exact ⟨a', k', A', c', h1, by simpa using h2, h00, h3⟩
      · have := hc (((f a).length + 1) + j) u (by
          rw [List.getElem?_append_right (by rw [hl]; omega), hl, Nat.add_sub_cancel_left]
          exact hu)
        rw [← Nat.add_assoc] at this
        exact this
end
theorem at_RexC {w : World} {lo hi : Nat} {A : Option Addr} {fr : Fr (Int × ByteArray)} (h : SlC rexC w lo hi A fr) {i : Nat} (hi' : i < fr.len) :
    ∃ b o a kids A' c', A = some ⟨b, o, none⟩ ∧ b < hi ∧ fr.drop i = .cons a kids (fr.drop (i + 1)) ∧ kids.size < fr.size ∧ kids.len ≤ c' ∧ SlC rexC w lo hi A' kids ∧
      w.cell? ⟨b, o + i * 3, none⟩ = some (.int .i64 a.1) ∧ w.cell? ⟨b, o + i * 3 + 1, none⟩ = some (.string a.2) ∧ w.cell? ⟨b, o + i * 3 + 2, none⟩ = some (.slice A' kids.len c') := by
  obtain ⟨b, o, a, kids, A', c', e, _, h2, hd, hs, h0, hc, hS⟩ := h.at_ rexC_len hi'
  exact ⟨b, o, a, kids, A', c', e, h2, hd, hs, h0, hS, hc 0 _ rfl, hc 1 _ rfl, hc 2 _ rfl⟩
/-- A row of the call's own (Ow), with lengths within capacities. -/
def OwC (w : World) (lo hi : Nat) (A : Option Addr) (fr : Fr (Int × ByteArray)) : Prop := Ow w lo hi A fr ∧ SlC rexC w lo hi A fr
def FitsOC (w : World) (lo hi : Nat) (fr : Fr (Int × ByteArray)) (l : List ((Int × ByteArray) × Value)) (k : Nat) : Prop := FitsO w lo hi fr l k ∧ FitsC rexC w lo hi fr l k
section
variable {w w' : World} {lo hi lo' hi' : Nat} {A : Option Addr} {fr : Fr (Int × ByteArray)} {l : List ((Int × ByteArray) × Value)} {k : Nat}
theorem OwC.keep (h : OwC w lo hi A fr) (hk : ∀ p : Addr, lo ≤ p.block → p.block < hi → w'.cell? p = w.cell? p ∧ w'.frozen? p = w.frozen? p) (hl : lo' ≤ lo) (hh : hi ≤ hi') : OwC w' lo' hi' A fr := ⟨h.1.keep hk hl hh, h.2.keep (fun p h1 h2 => (hk p h1 h2).1) hl hh⟩
theorem OwC.below (h : OwC w lo hi A fr) {B : Nat} (hb : Below B w w') (hB : hi ≤ B) : OwC w' lo hi A fr := ⟨h.1.below hb hB, h.2.below hb hB⟩
theorem OwC.setb (h : OwC w lo hi A fr) {b j : Nat} (hp : b < lo ∨ hi ≤ b) (u : Value) : OwC (w.setCell ⟨b, j, none⟩ u) lo hi A fr :=
  h.keep (fun q h1 h2 => set_both (p := ⟨b, j, none⟩) (by show q.block ≠ b; omega) u) (Nat.le_refl _) (Nat.le_refl _)
theorem OwC.more (h : OwC w lo hi A fr) (hl : lo' ≤ lo) (hh : hi ≤ hi') : OwC w lo' hi' A fr := h.keep (fun _ _ _ => ⟨rfl, rfl⟩) hl hh
theorem FitsOC.zero (fr : Fr (Int × ByteArray)) (l : List ((Int × ByteArray) × Value)) : FitsOC w lo hi fr l 0 := ⟨FitsO.zero _ _, FitsC.zero _ _⟩
theorem FitsOC.keep (h : FitsOC w lo hi fr l k) (hk : ∀ p : Addr, lo ≤ p.block → p.block < hi → w'.cell? p = w.cell? p ∧ w'.frozen? p = w.frozen? p) (hl : lo' ≤ lo) (hh : hi ≤ hi') : FitsOC w' lo' hi' fr l k := ⟨h.1.keep hk hl hh, h.2.keep (fun p h1 h2 => (hk p h1 h2).1) hl hh⟩
theorem FitsOC.setb (h : FitsOC w lo hi fr l k) {b j : Nat} (hp : b < lo ∨ hi ≤ b) (u : Value) : FitsOC (w.setCell ⟨b, j, none⟩ u) lo hi fr l k := ⟨h.1.setb hp u, h.2.setb hp u⟩
theorem FitsOC.set_ (h : FitsOC w lo hi fr l k) (hk : k < l.length) {a : Int × ByteArray} {kids : Fr (Int × ByteArray)} {A : Option Addr} {c : Nat} (hd : fr.drop k = .cons a kids (fr.drop (k + 1))) (h0 : kids.len ≤ c) (hS : OwC w lo hi A kids) :
    FitsOC w lo hi fr (l.set k (a, .slice A kids.len c)) (k + 1) := ⟨h.1.set_ hk hd hS.1, h.2.set_ hk hd h0 hS.2⟩
end
/-- It hands back a new row of these trees. -/
def RetFrC (fr : Fr (Int × ByteArray)) (w : World) (e : Ending) (w' : World) : Prop := ∃ (A : Option Addr) (c : Nat), e = .returned (.slice A fr.len c) ∧ fr.len ≤ c ∧ OwC w' w.heap.size w'.heap.size A fr
/-- It hands back a new tree. -/
def RetTrC (a : (Int × ByteArray)) (kids : Fr (Int × ByteArray)) (w : World) (e : Ending) (w' : World) : Prop := ∃ (A : Option Addr) (c : Nat), e = .returned (.agg #[.int .i64 a.1, .string a.2, .slice A kids.len c]) ∧ kids.len ≤ c ∧ OwC w' w.heap.size w'.heap.size A kids

end Go.Proofs.Ytnoekbgmhnhneaa
