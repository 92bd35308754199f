/- Rows of statements in memory: each element is a label's cells, the slice of its terms, and the slices of the statements within. No program in sight but the world's cells. -/
import Derived.Test.YtalnkdbmbjplpaaExprB
namespace Go.Proofs.Ytalnkdbmbjplpaa
open Go.RowKit

/-- A row of statements: the first one's label, its terms, the statements within, and those behind it. -/
inductive St where
  | nil : St
  | cons (a : Int × ByteArray × ByteArray) (x : Fr (Int × Int × ByteArray)) (p q rest : St) : St
namespace St
def len : St → Nat
  | .nil => 0
  | .cons _ _ _ _ r => r.len + 1
def size : St → Nat
  | .nil => 0
  | .cons _ x p q r => x.size + p.size + q.size + r.size + 1
def drop : St → Nat → St
  | fr, 0 => fr
  | .nil, _ + 1 => .nil
  | .cons _ _ _ _ r, n + 1 => r.drop n
theorem drop_zero (fr : St) : fr.drop 0 = fr := by cases fr <;> rfl
theorem drop_at : ∀ (fr : St) (i : Nat), i < fr.len → ∃ a x p q, fr.drop i = .cons a x p q (fr.drop (i + 1))
  | .nil, i, h => by simp [len] at h
  | .cons a x p q r, 0, _ => ⟨a, x, p, q, by rw [drop_zero]; show _ = St.cons a x p q (r.drop 0); rw [drop_zero]⟩
  | .cons _ _ _ _ r, i + 1, h => drop_at r i (by simpa [len] using h)
theorem drop_all : ∀ (fr : St), fr.drop fr.len = .nil
  | .nil => rfl
  | .cons _ _ _ _ r => drop_all r
theorem drop_size : ∀ (fr : St) (i : Nat), (fr.drop i).size ≤ fr.size
  | fr, 0 => by rw [drop_zero]; exact Nat.le_refl _
  | .nil, i + 1 => Nat.le_refl _
  | .cons _ x p q r, i + 1 => by have := drop_size r i; show (r.drop i).size ≤ x.size + p.size + q.size + r.size + 1; omega
theorem size_pos {fr : St} (h : fr.size = 0) : fr = .nil := by cases fr with | nil => rfl | cons a x p q r => simp [size] at h
theorem len_size : ∀ (fr : St), fr.len ≤ fr.size
  | .nil => Nat.le_refl _
  | .cons _ x p q r => by have := len_size r; show r.len + 1 ≤ x.size + p.size + q.size + r.size + 1; omega
end St

/-- A statement's cells: K, S, T, and the slices of X, A and B. -/
def stC (a : Int × ByteArray × ByteArray) (x p q : Value) : List Value := [.int .i64 a.1, .string a.2.1, .string a.2.2, x, p, q]
section
variable (w : World) (lo hi : Nat)
/-- The row's cells stand behind block b's place off; the blocks of all that lies within are from lo up to hi. -/
def StIn : St → Nat → Nat → Prop
  | .nil, _, _ => True
  | .cons a x p q rest, b, off =>
    (∃ X cx A ca B cb, (∀ j u, (stC a (.slice X x.len cx) (.slice A p.len ca) (.slice B q.len cb))[j]? = some u → w.cell? ⟨b, off + j, none⟩ = some u) ∧
      Sl exprC w lo hi X x ∧
      (0 < p.len → ∃ b' o', A = some ⟨b', o', none⟩ ∧ lo ≤ b' ∧ b' < hi ∧ StIn p b' o') ∧
      (0 < q.len → ∃ b' o', B = some ⟨b', o', none⟩ ∧ lo ≤ b' ∧ b' < hi ∧ StIn q b' o')) ∧
    StIn rest b (off + 6)
/-- A slice value that holds the row. -/
def SlS (A : Option Addr) (fr : St) : Prop := 0 < fr.len → ∃ b o, A = some ⟨b, o, none⟩ ∧ lo ≤ b ∧ b < hi ∧ StIn w lo hi fr b o
end
section
variable {w w' : World} {lo hi lo' hi' : Nat}
theorem StIn.keep (hk : ∀ p : Addr, lo ≤ p.block → p.block < hi → w'.cell? p = w.cell? p) (hl : lo' ≤ lo) (hh : hi ≤ hi') : ∀ (fr : St) (b off : Nat), lo ≤ b → b < hi → StIn w lo hi fr b off → StIn w' lo' hi' fr b off
  | .nil, _, _, _, _, _ => trivial
  | .cons a x p q rest, b, off, h1, h2, h => by
    obtain ⟨⟨X, cx, A, ca, B, cb, hc, hx, hp, hq⟩, hr⟩ := h
    refine ⟨⟨X, cx, A, ca, B, cb, fun j u hu => (hk ⟨b, off + j, none⟩ h1 h2).trans (hc j u hu), hx.keep hk hl hh, fun h0 => ?_, fun h0 => ?_⟩, StIn.keep hk hl hh rest b _ h1 h2 hr⟩
    · obtain ⟨b', o', e, q1, q2, hi2⟩ := hp h0
      exact ⟨b', o', e, by omega, by omega, StIn.keep hk hl hh p b' o' q1 q2 hi2⟩
    · obtain ⟨b', o', e, q1, q2, hi2⟩ := hq h0
      exact ⟨b', o', e, by omega, by omega, StIn.keep hk hl hh q b' o' q1 q2 hi2⟩
theorem SlS.keep {A : Option Addr} {fr : St} (h : SlS w lo hi A fr) (hk : ∀ p : Addr, lo ≤ p.block → p.block < hi → w'.cell? p = w.cell? p) (hl : lo' ≤ lo) (hh : hi ≤ hi') : SlS w' lo' hi' A fr := fun hp => by
  obtain ⟨b, o, e, h1, h2, h3⟩ := h hp
  exact ⟨b, o, e, by omega, by omega, StIn.keep hk hl hh fr b o h1 h2 h3⟩
theorem SlS.below {A : Option Addr} {fr : St} (h : SlS w lo hi A fr) {B : Nat} (hb : Below B w w') (hB : hi ≤ B) : SlS w' lo hi A fr := h.keep (fun _ _ h2 => hb.cell (by omega)) (Nat.le_refl _) (Nat.le_refl _)
theorem SlS.set {A : Option Addr} {fr : St} (h : SlS w lo hi A fr) {p : Addr} (hp : p.block < lo ∨ hi ≤ p.block) (u : Value) : SlS (w.setCell p u) lo hi A fr := h.keep (fun q h1 h2 => World.cell?_setCell_other w p q u (fun e => by subst e; omega)) (Nat.le_refl _) (Nat.le_refl _)
theorem SlS.setb {A : Option Addr} {fr : St} (h : SlS w lo hi A fr) {b j : Nat} (hp : b < lo ∨ hi ≤ b) (u : Value) : SlS (w.setCell ⟨b, j, none⟩ u) lo hi A fr := h.set (p := ⟨b, j, none⟩) hp u
theorem SlS.more {A : Option Addr} {fr : St} (h : SlS w lo hi A fr) (hl : lo' ≤ lo) (hh : hi ≤ hi') : SlS w lo' hi' A fr := h.keep (fun _ _ _ => rfl) hl hh
theorem StIn.drop : ∀ (fr : St) (i b off : Nat), StIn w lo hi fr b off → StIn w lo hi (fr.drop i) b (off + i * 6)
  | fr, 0, b, off, h => by rw [St.drop_zero, Nat.zero_mul, Nat.add_zero]; exact h
  | .nil, i + 1, b, off, _ => trivial
  | .cons a x p q r, i + 1, b, off, h => by
    have := StIn.drop r i b _ h.2
    rw [Nat.succ_mul, Nat.add_comm (i * 6), ← Nat.add_assoc]
    exact this
/-- What stands at place i of a row. -/
theorem SlS.at_ {A : Option Addr} {fr : St} (h : SlS w lo hi A fr) {i : Nat} (hi' : i < fr.len) :
    ∃ b o a x p q X cx P cp Q cq, A = some ⟨b, o, none⟩ ∧ lo ≤ b ∧ b < hi ∧ fr.drop i = .cons a x p q (fr.drop (i + 1)) ∧ x.size + p.size + q.size < fr.size ∧
      (Sl exprC w lo hi X x ∧ SlS w lo hi P p ∧ SlS w lo hi Q q) ∧
      w.cell? ⟨b, o + i * 6, none⟩ = some (.int .i64 a.1) ∧ w.cell? ⟨b, o + i * 6 + 1, none⟩ = some (.string a.2.1) ∧ w.cell? ⟨b, o + i * 6 + 2, none⟩ = some (.string a.2.2) ∧
      w.cell? ⟨b, o + i * 6 + 3, none⟩ = some (.slice X x.len cx) ∧ w.cell? ⟨b, o + i * 6 + 4, none⟩ = some (.slice P p.len cp) ∧ w.cell? ⟨b, o + i * 6 + 5, none⟩ = some (.slice Q q.len cq) := by
  obtain ⟨b, o, e, h1, h2, h3⟩ := h (by omega)
  obtain ⟨a, x, p, q, hd⟩ := fr.drop_at i hi'
  have h4 := StIn.drop fr i b o h3
  rw [hd] at h4
  obtain ⟨⟨X, cx, P, cp, Q, cq, hc, hx, hp, hq⟩, _⟩ := h4
  have := fr.drop_size i
  rw [hd] at this
  exact ⟨b, o, a, x, p, q, X, cx, P, cp, Q, cq, e, h1, h2, hd, by simp only [St.size] at this; omega, ⟨hx, hp, hq⟩, hc 0 _ rfl, hc 1 _ rfl, hc 2 _ rfl, hc 3 _ rfl, hc 4 _ rfl, hc 5 _ rfl⟩
/-- A row's elements: label and the three slices. -/
def sC (x : (Int × ByteArray × ByteArray) × Value × Value × Value) : List Value := stC x.1 x.2.1 x.2.2.1 x.2.2.2
theorem sC_len (x : (Int × ByteArray × ByteArray) × Value × Value × Value) : (sC x).length = 6 := rfl
/-- The first k places of a list of labels and slices are the row's. -/
def FitsS (w : World) (lo hi : Nat) (fr : St) (l : List ((Int × ByteArray × ByteArray) × Value × Value × Value)) (k : Nat) : Prop :=
  ∀ i, i < k → ∃ a x p q X cx P cp Q cq, fr.drop i = .cons a x p q (fr.drop (i + 1)) ∧ l[i]? = some (a, .slice X x.len cx, .slice P p.len cp, .slice Q q.len cq) ∧ Sl exprC w lo hi X x ∧ SlS w lo hi P p ∧ SlS w lo hi Q q
theorem FitsS.zero (fr : St) (l : List ((Int × ByteArray × ByteArray) × Value × Value × Value)) : FitsS w lo hi fr l 0 := fun i h => by omega
theorem FitsS.keep {fr : St} {l : List ((Int × ByteArray × ByteArray) × Value × Value × Value)} {k : Nat} (h : FitsS w lo hi fr l k) (hk : ∀ p : Addr, lo ≤ p.block → p.block < hi → w'.cell? p = w.cell? p) (hl : lo' ≤ lo) (hh : hi ≤ hi') : FitsS w' lo' hi' fr l k := fun i hi0 => by
  obtain ⟨a, x, p, q, X, cx, P, cp, Q, cq, h1, h2, h3, h4, h5⟩ := h i hi0
  exact ⟨a, x, p, q, X, cx, P, cp, Q, cq, h1, h2, h3.keep hk hl hh, h4.keep hk hl hh, h5.keep hk hl hh⟩
theorem FitsS.setb {fr : St} {l : List ((Int × ByteArray × ByteArray) × Value × Value × Value)} {k : Nat} (h : FitsS w lo hi fr l k) {b j : Nat} (hp : b < lo ∨ hi ≤ b) (u : Value) : FitsS (w.setCell ⟨b, j, none⟩ u) lo hi fr l k := fun i hi0 => by
  obtain ⟨a, x, p, q, X, cx, P, cp, Q, cq, h1, h2, h3, h4, h5⟩ := h i hi0
  exact ⟨a, x, p, q, X, cx, P, cp, Q, cq, h1, h2, h3.setb hp u, h4.setb hp u, h5.setb hp u⟩
theorem FitsS.set_ {fr : St} {l : List ((Int × ByteArray × ByteArray) × Value × Value × Value)} {k : Nat} (h : FitsS w lo hi fr l k) (hk : k < l.length) {a : Int × ByteArray × ByteArray} {x : Fr (Int × Int × ByteArray)} {p q : St} {X P Q : Option Addr} {cx cp cq : Nat} (hd : fr.drop k = .cons a x p q (fr.drop (k + 1))) (hX : Sl exprC w lo hi X x) (hP : SlS w lo hi P p) (hQ : SlS w lo hi Q q) :
    FitsS w lo hi fr (l.set k (a, .slice X x.len cx, .slice P p.len cp, .slice Q q.len cq)) (k + 1) := fun i hi0 => by
  by_cases hik : i = k
  · subst hik
    exact ⟨a, x, p, q, X, cx, P, cp, Q, cq, hd, by rw [List.getElem?_set_self (by omega)], hX, hP, hQ⟩
  · obtain ⟨a', x', p', q', X', cx', P', cp', Q', cq', h1, h2, h3⟩ := h i (by omega)
    exact ⟨a', x', p', q', X', cx', P', cp', Q', cq', h1, by rw [List.getElem?_set_ne (by omega)]; exact h2, h3⟩
theorem StIn.of_fits : ∀ (fr : St) (l : List ((Int × ByteArray × ByteArray) × Value × Value × Value)) (b off : Nat), l.length = fr.len → FitsS w lo hi fr l fr.len → (∀ j u, (flat sC l)[j]? = some u → w.cell? ⟨b, off + j, none⟩ = some u) → StIn w lo hi fr b off
  | .nil, _, _, _, _, _, _ => trivial
  | .cons _ _ _ _ _, [], _, _, h, _, _ => by simp [St.len] at h
  | .cons a x p q r, y :: l, b, off, h, hF, hc => by
    obtain ⟨a', x', p', q', X, cx, P, cp, Q, cq, h1, h2, h3, h4, h5⟩ := hF 0 (by simp [St.len])
    rw [St.drop_zero] at h1
    injection h1 with e1 e2 e3 e4 e5
    subst e1 e2 e3 e4
    simp only [List.getElem?_cons_zero, Option.some.injEq] at h2
    subst h2
    rw [flat_cons] at hc
    refine ⟨⟨X, cx, P, cp, Q, cq, fun j u hu => hc j u ?_, h3, h4, h5⟩, ?_⟩
    · have hj : j < 6 := by
        rcases Nat.lt_or_ge j 6 with h | h
        · exact h
        · exact absurd hu (by rw [List.getElem?_eq_none (by exact h)]; simp)
      rw [List.getElem?_append_left (by rw [sC_len]; exact hj)]
      exact hu
    · refine StIn.of_fits r l b _ (by simpa [St.len] using h) (fun i hi' => ?_) (fun j u hu => ?_)
      · obtain ⟨a', x', p', q', X', cx', P', cp', Q', cq', h1, h2, h3⟩ := hF (i + 1) (by simp [St.len]; exact hi')
        exact ⟨a', x', p', q', X', cx', P', cp', Q', cq', h1, by simpa using h2, h3⟩
      · have := hc (6 + j) u (by
          rw [List.getElem?_append_right (by rw [sC_len]; omega), sC_len, Nat.add_sub_cancel_left]
          exact hu)
        rw [← Nat.add_assoc] at this
        exact this
/-- What is asked of each label, and that no slice is too long. -/
def StOk (Q : Int × ByteArray × ByteArray → Prop) (R : Int × Int × ByteArray → Prop) : St → Prop
  | .nil => True
  | .cons a x p q r => (Q a ∧ x.len ≤ 9223372036854775807 ∧ p.len ≤ 9223372036854775807 ∧ q.len ≤ 9223372036854775807) ∧ FrOk R x ∧ StOk Q R p ∧ StOk Q R q ∧ StOk Q R r
theorem StOk.drop {Q : Int × ByteArray × ByteArray → Prop} {R : Int × Int × ByteArray → Prop} : ∀ {fr : St} (i : Nat), StOk Q R fr → StOk Q R (fr.drop i)
  | fr, 0, h => by rw [St.drop_zero]; exact h
  | .nil, i + 1, _ => trivial
  | .cons _ _ _ _ r, i + 1, h => StOk.drop (fr := r) i h.2.2.2.2
/-- How many nodes and bytes there are. -/
def wtS (g : Int × Int × ByteArray → Nat) : St → Nat
  | .nil => 0
  | .cons a x p q r => 1 + (a.2.1.size + a.2.2.size) + wt g x + wtS g p + wtS g q + wtS g r
theorem len_wtS (g : Int × Int × ByteArray → Nat) : ∀ fr : St, fr.len ≤ wtS g fr
  | .nil => Nat.le_refl _
  | .cons _ _ _ _ r => by have := len_wtS g r; show r.len + 1 ≤ _; simp only [wtS]; omega
theorem size_wtS (g : Int × Int × ByteArray → Nat) : ∀ fr : St, fr.size ≤ wtS g fr
  | .nil => Nat.le_refl _
  | .cons _ x p q r => by have := size_wt g x; have := size_wtS g p; have := size_wtS g q; have := size_wtS g r; simp only [wtS, St.size]; omega
end

end Go.Proofs.Ytalnkdbmbjplpaa
