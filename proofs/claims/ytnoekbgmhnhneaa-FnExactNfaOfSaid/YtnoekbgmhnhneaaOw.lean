/- Rows of trees of the call's own (Ow): aligned, not frozen; and what of them stays when they are marked (Sh, Mk). No program in sight. -/
import Derived.Test.YtnoekbgmhnhneaaRexB
namespace Go.Proofs.Ytnoekbgmhnhneaa
open Go.RowKit

section
variable (w : World) (lo hi : Nat)
/-- The row's cells stand behind block b's place off, none is frozen; each row within begins at a block's head. -/
def OwIn : Fr (Int × ByteArray) → Nat → Nat → Prop
  | .nil, _, _ => True
  | .cons a kids rest, b, off =>
    (∃ A c, (∀ j u, (rexC a ++ [Value.slice A kids.len c])[j]? = some u → w.cell? ⟨b, off + j, none⟩ = some u ∧ w.frozen? ⟨b, off + j, none⟩ = false) ∧
      (0 < kids.len → ∃ b', A = some ⟨b', 0, none⟩ ∧ lo ≤ b' ∧ b' < hi ∧ OwIn kids b' 0)) ∧
    OwIn rest b (off + 3)
/-- A slice value that holds the row. -/
def Ow (A : Option Addr) (fr : Fr (Int × ByteArray)) : Prop := 0 < fr.len → ∃ b, A = some ⟨b, 0, none⟩ ∧ lo ≤ b ∧ b < hi ∧ OwIn w lo hi fr b 0
/-- Of the row's cells the kinds alone. -/
def ShIn : Fr (Int × ByteArray) → Nat → Nat → Prop
  | .nil, _, _ => True
  | .cons _ kids rest, b, off =>
    (∃ (x : Int) (s : ByteArray) (A : Option Addr) (c : Nat), w.cell? ⟨b, off, none⟩ = some (.int .i64 x) ∧ w.cell? ⟨b, off + 1, none⟩ = some (.string s) ∧ w.cell? ⟨b, off + 2, none⟩ = some (.slice A kids.len c) ∧
      w.frozen? ⟨b, off, none⟩ = false ∧ w.frozen? ⟨b, off + 1, none⟩ = false ∧
      (0 < kids.len → ∃ b', A = some ⟨b', 0, none⟩ ∧ lo ≤ b' ∧ b' < hi ∧ ShIn kids b' 0)) ∧
    ShIn rest b (off + 3)
def Sh (A : Option Addr) (fr : Fr (Int × ByteArray)) : Prop := 0 < fr.len → ∃ b, A = some ⟨b, 0, none⟩ ∧ lo ≤ b ∧ b < hi ∧ ShIn w lo hi fr b 0
end
section
variable {w w' : World} {lo hi lo' hi' : Nat}
theorem OwIn.keep (hk : ∀ p : Addr, lo ≤ p.block → p.block < hi → w'.cell? p = w.cell? p ∧ w'.frozen? p = w.frozen? p) (hl : lo' ≤ lo) (hh : hi ≤ hi') : ∀ (fr : Fr (Int × ByteArray)) (b off : Nat), lo ≤ b → b < hi → OwIn w lo hi fr b off → OwIn w' lo' hi' fr b off
  | .nil, _, _, _, _, _ => trivial
  | .cons a kids rest, b, off, h1, h2, h => by
    obtain ⟨⟨A, c, hc, hk'⟩, hr⟩ := h
    refine ⟨⟨A, c, fun j u hu => ?_, fun hp => ?_⟩, OwIn.keep hk hl hh rest b _ h1 h2 hr⟩
    · have hq := hk ⟨b, off + j, none⟩ h1 h2
      exact ⟨hq.1.trans (hc j u hu).1, hq.2.trans (hc j u hu).2⟩
    · obtain ⟨b', e, q1, q2, hi2⟩ := hk' hp
      exact ⟨b', e, by omega, by omega, OwIn.keep hk hl hh kids b' 0 q1 q2 hi2⟩
theorem Ow.keep {A : Option Addr} {fr : Fr (Int × ByteArray)} (h : Ow w lo hi A fr) (hk : ∀ p : Addr, lo ≤ p.block → p.block < hi → w'.cell? p = w.cell? p ∧ w'.frozen? p = w.frozen? p) (hl : lo' ≤ lo) (hh : hi ≤ hi') : Ow w' lo' hi' A fr := fun hp => by
  obtain ⟨b, e, h1, h2, h3⟩ := h hp
  exact ⟨b, e, by omega, by omega, OwIn.keep hk hl hh fr b 0 h1 h2 h3⟩
theorem below_both {B : Nat} (hb : Below B w w') {p : Addr} (hp : p.block < B) : w'.cell? p = w.cell? p ∧ w'.frozen? p = w.frozen? p := ⟨hb.cell hp, World.frozen?_of_block (hb.block p.block hp)⟩
theorem Ow.below {A : Option Addr} {fr : Fr (Int × ByteArray)} (h : Ow w lo hi A fr) {B : Nat} (hb : Below B w w') (hB : hi ≤ B) : Ow w' lo hi A fr := h.keep (fun _ _ h2 => below_both hb (by omega)) (Nat.le_refl _) (Nat.le_refl _)
theorem set_both {p q : Addr} (hne : q.block ≠ p.block) (u : Value) : (w.setCell p u).cell? q = w.cell? q ∧ (w.setCell p u).frozen? q = w.frozen? q :=
  ⟨World.cell?_setCell_other w p q u (fun e => hne (by rw [e])), World.frozen?_of_block (Below.heap_setCell w p u q.block hne)⟩
theorem Ow.setb {A : Option Addr} {fr : Fr (Int × ByteArray)} (h : Ow w lo hi A fr) {b j : Nat} (hp : b < lo ∨ hi ≤ b) (u : Value) : Ow (w.setCell ⟨b, j, none⟩ u) lo hi A fr :=
  h.keep (fun q h1 h2 => set_both (p := ⟨b, j, none⟩) (by show q.block ≠ b; omega) u) (Nat.le_refl _) (Nat.le_refl _)
theorem Ow.more {A : Option Addr} {fr : Fr (Int × ByteArray)} (h : Ow w lo hi A fr) (hl : lo' ≤ lo) (hh : hi ≤ hi') : Ow w lo' hi' A fr := h.keep (fun _ _ _ => ⟨rfl, rfl⟩) hl hh
theorem OwIn.in_ : ∀ (fr : Fr (Int × ByteArray)) (b off : Nat), OwIn w lo hi fr b off → FrIn rexC w lo hi fr b off
  | .nil, _, _, _ => trivial
  | .cons a kids rest, b, off, h => by
    obtain ⟨⟨A, c, hc, hk'⟩, hr⟩ := h
    refine ⟨⟨A, c, fun j u hu => (hc j u hu).1, fun hp => ?_⟩, OwIn.in_ rest b _ hr⟩
    obtain ⟨b', e, q1, q2, hi2⟩ := hk' hp
    exact ⟨b', 0, e, q1, q2, OwIn.in_ kids b' 0 hi2⟩
theorem Ow.sl {A : Option Addr} {fr : Fr (Int × ByteArray)} (h : Ow w lo hi A fr) : Sl rexC w lo hi A fr := fun hp => by
  obtain ⟨b, e, h1, h2, h3⟩ := h hp
  exact ⟨b, 0, e, h1, h2, OwIn.in_ fr b 0 h3⟩
theorem OwIn.sh : ∀ (fr : Fr (Int × ByteArray)) (b off : Nat), OwIn w lo hi fr b off → ShIn w lo hi fr b off
  | .nil, _, _, _ => trivial
  | .cons a kids rest, b, off, h => by
    obtain ⟨⟨A, c, hc, hk'⟩, hr⟩ := h
    refine ⟨⟨a.1, a.2, A, c, (hc 0 _ rfl).1, (hc 1 _ rfl).1, (hc 2 _ rfl).1, (hc 0 _ rfl).2, (hc 1 _ rfl).2, fun hp => ?_⟩, OwIn.sh rest b _ hr⟩
    obtain ⟨b', e, q1, q2, hi2⟩ := hk' hp
    exact ⟨b', e, q1, q2, OwIn.sh kids b' 0 hi2⟩
theorem Ow.sh {A : Option Addr} {fr : Fr (Int × ByteArray)} (h : Ow w lo hi A fr) : Sh w lo hi A fr := fun hp => by
  obtain ⟨b, e, h1, h2, h3⟩ := h hp
  exact ⟨b, e, h1, h2, OwIn.sh fr b 0 h3⟩
/-- The first k places of a list of labels and slices are the row's. -/
def FitsO (w : World) (lo hi : Nat) (fr : Fr (Int × ByteArray)) (l : List ((Int × ByteArray) × Value)) (k : Nat) : Prop :=
  ∀ i, i < k → ∃ a kids A c, fr.drop i = .cons a kids (fr.drop (i + 1)) ∧ l[i]? = some (a, .slice A kids.len c) ∧ Ow w lo hi A kids
theorem FitsO.zero (fr : Fr (Int × ByteArray)) (l : List ((Int × ByteArray) × Value)) : FitsO w lo hi fr l 0 := fun i h => by omega
theorem FitsO.keep {fr : Fr (Int × ByteArray)} {l : List ((Int × ByteArray) × Value)} {k : Nat} (h : FitsO w lo hi fr l k) (hk : ∀ p : Addr, lo ≤ p.block → p.block < hi → w'.cell? p = w.cell? p ∧ w'.frozen? p = w.frozen? p) (hl : lo' ≤ lo) (hh : hi ≤ hi') : FitsO w' lo' hi' fr l k := fun i hi0 => by
  obtain ⟨a, kids, A, c, h1, h2, h3⟩ := h i hi0
  exact ⟨a, kids, A, c, h1, h2, h3.keep hk hl hh⟩
theorem FitsO.setb {fr : Fr (Int × ByteArray)} {l : List ((Int × ByteArray) × Value)} {k : Nat} (h : FitsO w lo hi fr l k) {b j : Nat} (hp : b < lo ∨ hi ≤ b) (u : Value) : FitsO (w.setCell ⟨b, j, none⟩ u) lo hi fr l k := fun i hi0 => by
  obtain ⟨a, kids, A, c, h1, h2, h3⟩ := h i hi0
  exact ⟨a, kids, A, c, h1, h2, h3.setb hp u⟩
theorem FitsO.set_ {fr : Fr (Int × ByteArray)} {l : List ((Int × ByteArray) × Value)} {k : Nat} (h : FitsO w lo hi fr l k) (hk : k < l.length) {a : Int × ByteArray} {kids : Fr (Int × ByteArray)} {A : Option Addr} {c : Nat} (hd : fr.drop k = .cons a kids (fr.drop (k + 1))) (hS : Ow w lo hi A kids) :
    FitsO w lo hi fr (l.set k (a, .slice A kids.len c)) (k + 1) := fun i hi0 => by
  by_cases hik : i = k
  · subst hik
    exact ⟨a, kids, A, c, hd, by rw [List.getElem?_set_self (by omega)], hS⟩
  · obtain ⟨a', kids', A', c', h1, h2, h3⟩ := h i (by omega)
    exact ⟨a', kids', A', c', h1, by rw [List.getElem?_set_ne (by omega)]; exact h2, h3⟩
theorem OwIn.of_fits : ∀ (fr : Fr (Int × ByteArray)) (l : List ((Int × ByteArray) × Value)) (b off : Nat), l.length = fr.len → FitsO w lo hi fr l fr.len → (∀ j u, (flat (rC rexC) l)[j]? = some u → w.cell? ⟨b, off + j, none⟩ = some u ∧ w.frozen? ⟨b, off + j, none⟩ = false) → OwIn w lo hi fr b off
  | .nil, _, _, _, _, _, _ => trivial
  | .cons a k r, [], _, _, h, _, _ => by simp [Fr.len] at h
  | .cons a k r, x :: l, b, off, h, hF, hc => by
    obtain ⟨a', k', A, c, h1, h2, h3⟩ := hF 0 (by simp [Fr.len])
    rw [Fr.drop_zero] at h1
    injection h1 with e1 e2 e3
    subst e1 e2
    simp only [List.getElem?_cons_zero, Option.some.injEq] at h2
    subst h2
    rw [flat_cons] at hc
    have hl : (rC rexC (a, Value.slice A k.len c)).length = 3 := rfl
    refine ⟨⟨A, c, fun j u hu => hc j u ?_, h3⟩, ?_⟩
    · have hj : j < (rC rexC (a, Value.slice A k.len c)).length := by
        rcases Nat.lt_or_ge j (rC rexC (a, Value.slice A k.len c)).length with h | h
        · exact h
        · exact absurd hu (by rw [show (rexC a ++ [Value.slice A k.len c])[j]? = none from List.getElem?_eq_none h]; simp)
      rw [List.getElem?_append_left hj]
      exact hu
    · refine OwIn.of_fits r l b _ (by simpa [Fr.len] using h) (fun i hi' => ?_) (fun j u hu => ?_)
      · obtain ⟨a', k', A', c', q1, q2, q3⟩ := hF (i + 1) (by simp [Fr.len]; exact hi')
        exact ⟨a', k', A', c', q1, by simpa using q2, q3⟩
      · have := hc (3 + j) u (by
          rw [List.getElem?_append_right (by rw [hl]; omega), hl, Nat.add_sub_cancel_left]
          exact hu)
        rw [← Nat.add_assoc] at this
        exact this
/-- A place of the right kind is written: the kinds stay. -/
theorem ShIn.put {B o : Nat} {u : Value} (hu : (o % 3 = 0 ∧ ∃ x, u = .int .i64 x) ∨ (o % 3 = 1 ∧ ∃ s, u = .string s)) (hB : (w.cell? ⟨B, o, none⟩).isSome) : ∀ (fr : Fr (Int × ByteArray)) (b off : Nat), off % 3 = 0 → ShIn w lo hi fr b off → ShIn (w.setCell ⟨B, o, none⟩ u) lo hi fr b off
  | .nil, _, _, _, _ => trivial
  | .cons a kids rest, b, off, h0, h => by
    obtain ⟨⟨x, s, A, c, c0, c1, c2, f0, f1, hk⟩, hr⟩ := h
    have hfz : ∀ q : Addr, (w.setCell ⟨B, o, none⟩ u).frozen? q = w.frozen? q := fun q => by simp
    have hother : ∀ j, ¬ (b = B ∧ off + j = o) → (w.setCell ⟨B, o, none⟩ u).cell? ⟨b, off + j, none⟩ = w.cell? ⟨b, off + j, none⟩ := fun j hne => World.cell?_setCell_other w _ _ _ (fun e => hne (by injection e with e1 e2; exact ⟨e1.symm, e2.symm⟩))
    have hsame : ∀ q : Addr, q = ⟨B, o, none⟩ → (w.setCell ⟨B, o, none⟩ u).cell? q = some u := fun q e => by subst e; exact World.cell?_setCell_same' w _ u hB
    refine ⟨?_, ShIn.put hu hB rest b _ (by omega) hr⟩
    have ho : o % 3 = 0 ∨ o % 3 = 1 := hu.imp And.left And.left
    have hkk : 0 < kids.len → ∃ b', A = some ⟨b', 0, none⟩ ∧ lo ≤ b' ∧ b' < hi ∧ ShIn (w.setCell ⟨B, o, none⟩ u) lo hi kids b' 0 := fun hp => by
      obtain ⟨b', e, q1, q2, q3⟩ := hk hp
      exact ⟨b', e, q1, q2, ShIn.put hu hB kids b' 0 rfl q3⟩
    have C2 : (w.setCell ⟨B, o, none⟩ u).cell? ⟨b, off + 2, none⟩ = some (.slice A kids.len c) := (hother 2 (by rintro ⟨_, e⟩; clear hu hkk hk; omega)).trans c2
    have C0 : ∃ x', (w.setCell ⟨B, o, none⟩ u).cell? ⟨b, off, none⟩ = some (.int .i64 x') := by
      by_cases e : b = B ∧ off + 0 = o
      · obtain ⟨rfl, e⟩ := e
        rcases hu with ⟨_, x', rfl⟩ | ⟨h1, _⟩
        · exact ⟨x', hsame _ (by rw [← e]; rfl)⟩
        · omega
      · exact ⟨x, (hother 0 e).trans c0⟩
    have C1 : ∃ s', (w.setCell ⟨B, o, none⟩ u).cell? ⟨b, off + 1, none⟩ = some (.string s') := by
      by_cases e : b = B ∧ off + 1 = o
      · obtain ⟨rfl, e⟩ := e
        rcases hu with ⟨h1, _⟩ | ⟨_, s', rfl⟩
        · omega
        · exact ⟨s', hsame _ (by rw [← e])⟩
      · exact ⟨s, (hother 1 e).trans c1⟩
    obtain ⟨x', C0⟩ := C0
    obtain ⟨s', C1⟩ := C1
    exact ⟨x', s', A, c, C0, C1, C2, (hfz _).trans f0, (hfz _).trans f1, hkk⟩
/-- Marked: outside of the tree's blocks all is as it was; whatever had the kinds still has them. -/
structure Mk (lo hi : Nat) (w w' : World) : Prop where
  os : w'.os = w.os
  tape : w'.tape = w.tape
  output : w'.output = w.output
  size : w.heap.size ≤ w'.heap.size
  block : ∀ k, k < w.heap.size → k < lo ∨ hi ≤ k → w'.heap[k]? = w.heap[k]?
  shape : ∀ (fr : Fr (Int × ByteArray)) (b off : Nat), off % 3 = 0 → ShIn w lo hi fr b off → lo ≤ b → b < hi → ShIn w' lo hi fr b off
theorem Mk.refl (lo hi : Nat) (w : World) : Mk lo hi w w := ⟨rfl, rfl, rfl, Nat.le_refl _, fun _ _ _ => rfl, fun _ _ _ _ h _ _ => h⟩
theorem Mk.trans {a b c : World} (h : Mk lo hi a b) (k : Mk lo hi b c) : Mk lo hi a c :=
  ⟨k.os.trans h.os, k.tape.trans h.tape, k.output.trans h.output, Nat.le_trans h.size k.size, fun i h1 h2 => (k.block i (Nat.lt_of_lt_of_le h1 h.size) h2).trans (h.block i h1 h2), fun fr b off h0 h1 h2 h3 => k.shape fr b off h0 (h.shape fr b off h0 h1 h2 h3) h2 h3⟩
theorem ShIn.keep (hk : ∀ p : Addr, lo ≤ p.block → p.block < hi → w'.cell? p = w.cell? p ∧ w'.frozen? p = w.frozen? p) : ∀ (fr : Fr (Int × ByteArray)) (b off : Nat), lo ≤ b → b < hi → ShIn w lo hi fr b off → ShIn w' lo hi fr b off
  | .nil, _, _, _, _, _ => trivial
  | .cons a kids rest, b, off, h1, h2, h => by
    obtain ⟨⟨x, s, A, c, c0, c1, c2, f0, f1, hk'⟩, hr⟩ := h
    refine ⟨⟨x, s, A, c, (hk ⟨b, off, none⟩ h1 h2).1.trans c0, (hk ⟨b, off + 1, none⟩ h1 h2).1.trans c1, (hk ⟨b, off + 2, none⟩ h1 h2).1.trans c2, (hk ⟨b, off, none⟩ h1 h2).2.trans f0, (hk ⟨b, off + 1, none⟩ h1 h2).2.trans f1, fun hp => ?_⟩, ShIn.keep hk rest b _ h1 h2 hr⟩
    obtain ⟨b', e, q1, q2, q3⟩ := hk' hp
    exact ⟨b', e, q1, q2, ShIn.keep hk kids b' 0 q1 q2 q3⟩
theorem Mk.below (h : Below w.heap.size w w') (hh : hi ≤ w.heap.size) : Mk lo hi w w' :=
  ⟨h.os, h.tape, h.output, h.size, fun i h1 _ => h.block i h1, fun fr b off _ h1 h2 h3 => ShIn.keep (fun p _ q2 => below_both h (by omega)) fr b off h2 h3 h1⟩
theorem Mk.set {B o : Nat} {u : Value} (hB1 : lo ≤ B) (hB2 : B < hi) (hu : (o % 3 = 0 ∧ ∃ x, u = .int .i64 x) ∨ (o % 3 = 1 ∧ ∃ s, u = .string s)) (hB : (w.cell? ⟨B, o, none⟩).isSome) : Mk lo hi w (w.setCell ⟨B, o, none⟩ u) :=
  ⟨rfl, rfl, rfl, by simp, fun i _ h2 => Below.heap_setCell w ⟨B, o, none⟩ u i (by show i ≠ B; omega), fun fr b off h0 h1 _ _ => ShIn.put hu hB fr b off h0 h1⟩
theorem Mk.drew (h : Mk lo hi w w') : Mk lo hi w w'.drew := ⟨h.os, h.tape, h.output, h.size, h.block, fun fr b off h0 h1 h2 h3 => ShIn.keep (w := w') (w' := w'.drew) (fun _ _ _ => ⟨rfl, rfl⟩) fr b off h2 h3 (h.shape fr b off h0 h1 h2 h3)⟩
theorem Mk.sh (h : Mk lo hi w w') {A : Option Addr} {fr : Fr (Int × ByteArray)} (hS : Sh w lo hi A fr) : Sh w' lo hi A fr := fun hp => by
  obtain ⟨b, e, h1, h2, h3⟩ := hS hp
  exact ⟨b, e, h1, h2, h.shape fr b 0 rfl h3 h1 h2⟩
theorem Mk.cell (h : Mk lo hi w w') {p : Addr} (hp : p.block < w.heap.size) (hn : p.block < lo ∨ hi ≤ p.block) : w'.cell? p = w.cell? p := World.cell?_of_block (h.block p.block hp hn)
theorem Mk.bl (h : Mk lo hi w w') {B : Nat} (hB : B ≤ lo) (hBw : B ≤ w.heap.size) : Below B w w' := ⟨h.os, h.tape, h.output, h.size, fun i hi => h.block i (by omega) (.inl (by omega))⟩
theorem ShIn.drop : ∀ (fr : Fr (Int × ByteArray)) (i b off : Nat), ShIn w lo hi fr b off → ShIn w lo hi (fr.drop i) b (off + i * 3)
  | fr, 0, b, off, h => by rw [Fr.drop_zero, Nat.zero_mul, Nat.add_zero]; exact h
  | .nil, i + 1, b, off, _ => trivial
  | .cons a k r, i + 1, b, off, h => by
    have := ShIn.drop r i b _ h.2
    rw [Nat.succ_mul, Nat.add_comm (i * 3), ← Nat.add_assoc]
    exact this
/-- What stands at place i. -/
theorem Sh.at_ {b : Nat} {fr : Fr (Int × ByteArray)} (h : ShIn w lo hi fr b 0) {i : Nat} (hi' : i < fr.len) :
    ∃ (a : Int × ByteArray) (kids : Fr (Int × ByteArray)) (x : Int) (s : ByteArray) (A : Option Addr) (c : Nat), fr.drop i = .cons a kids (fr.drop (i + 1)) ∧ kids.size < fr.size ∧
      w.cell? ⟨b, i * 3, none⟩ = some (.int .i64 x) ∧ w.cell? ⟨b, i * 3 + 1, none⟩ = some (.string s) ∧ w.cell? ⟨b, i * 3 + 2, none⟩ = some (.slice A kids.len c) ∧
      w.frozen? ⟨b, i * 3, none⟩ = false ∧ w.frozen? ⟨b, i * 3 + 1, none⟩ = false ∧ Sh w lo hi A kids := by
  obtain ⟨a, kids, hd⟩ := fr.drop_at i hi'
  have h4 := ShIn.drop fr i b 0 h
  rw [hd, Nat.zero_add] at h4
  obtain ⟨⟨x, s, A, c, c0, c1, c2, f0, f1, hk⟩, _⟩ := h4
  have := fr.drop_size i
  rw [hd] at this
  exact ⟨a, kids, x, s, A, c, hd, by simp only [Fr.size] at this; omega, c0, c1, c2, f0, f1, hk⟩
end

end Go.Proofs.Ytnoekbgmhnhneaa
