/- Rows of trees in memory: each element is a label's cells and the slice of its own elements. No program in sight but the world's cells. -/
import Derived.Test.YtalnkdbmbjplpaaFlat
namespace Go.Proofs.Ytalnkdbmbjplpaa
open Go.RowKit

theorem res_cell1 {fn : Func} {p : Tmp} {ty : TypeId} (h : fn.results = #[.cell p ty]) (tmps : Array Value) (P : Program) (w : World) (g : Nat) (t : TypeId) (cs : Array Value) {fs : _}
    (hp : tmps.getD p undef = .pointer (some ⟨g, 0, none⟩)) (hg : Blk w g t cs)
    (hu : P.underlying ty = some (.struct fs)) (hi : (P.info? ty).map (·.size) = some cs.size) :
    (results fn tmps).run P w = .ok (.agg cs) w := by
  have hp' : tmps[p]?.getD undef = .pointer (some ⟨g, 0, none⟩) := by simpa using hp
  simp [results, h, hp', asAddr, run_loadVar_row w g t ty cs (0, 0) (.struct fs) hg hu rfl hi]
theorem alloc_size (w : World) (o : Obj) : (w.alloc o).heap.size = w.heap.size + 1 := Array.size_push _
theorem Blk.new2 (w : World) (o : Obj) (t : TypeId) (cs : Array Value) : Blk ((w.alloc o).alloc (.cells cs t)) (w.heap.size + 1) t cs := heap_alloc2_new w _ _
theorem Blk.farb {w : World} {g b j : Nat} {t : TypeId} {cs : Array Value} (h : Blk w g t cs) (hp : g ≠ b) (u : Value) : Blk (w.setCell ⟨b, j, none⟩ u) g t cs := h.far (p := ⟨b, j, none⟩) hp u
theorem bl_setb {B b j : Nat} {a w : World} (h : Below B a w) (hp : B ≤ b) (u : Value) : Below B a (w.setCell ⟨b, j, none⟩ u) := Below.setCell (p := ⟨b, j, none⟩) h hp u
/-- What is left; -1: too little. -/
def left_ (l : Int) (n : Nat) : Int := if l - n < 0 then -1 else l - n
theorem left_neg {l : Int} {n : Nat} (h : left_ l n < 0) : left_ l n = -1 ∧ l < n := by
  unfold left_ at h ⊢
  split at h
  · exact ⟨if_pos (by assumption), by omega⟩
  · omega
theorem left_pos {l : Int} {n : Nat} (h : ¬ left_ l n < 0) : left_ l n = l - n ∧ (n : Int) ≤ l := by
  unfold left_ at h ⊢
  split at h
  · omega
  · exact ⟨if_neg (by assumption), by omega⟩
theorem left_is {l : Int} {n : Nat} (h : l < n) : left_ l n = -1 := by unfold left_; rw [if_pos (by omega)]
/-- A row of trees: the first one's label, its kids, and the trees behind it. -/
inductive Fr (α : Type) where
  | nil : Fr α
  | cons (a : α) (kids rest : Fr α) : Fr α
namespace Fr
variable {α : Type}
def len : Fr α → Nat
  | .nil => 0
  | .cons _ _ r => r.len + 1
def size : Fr α → Nat
  | .nil => 0
  | .cons _ k r => k.size + r.size + 1
def drop : Fr α → Nat → Fr α
  | fr, 0 => fr
  | .nil, _ + 1 => .nil
  | .cons _ _ r, n + 1 => r.drop n
theorem drop_zero (fr : Fr α) : fr.drop 0 = fr := by cases fr <;> rfl
theorem drop_at : ∀ (fr : Fr α) (i : Nat), i < fr.len → ∃ a k, fr.drop i = .cons a k (fr.drop (i + 1))
  | .nil, i, h => by simp [len] at h
  | .cons a k r, 0, _ => ⟨a, k, by rw [drop_zero]; show _ = Fr.cons a k (r.drop 0); rw [drop_zero]⟩
  | .cons a k r, i + 1, h => drop_at r i (by simpa [len] using h)
theorem drop_all : ∀ (fr : Fr α), fr.drop fr.len = .nil
  | .nil => rfl
  | .cons _ _ r => drop_all r
theorem drop_len : ∀ (fr : Fr α) (i : Nat), (fr.drop i).len = fr.len - i
  | fr, 0 => by rw [drop_zero]; rfl
  | .nil, i + 1 => by simp [drop, len]
  | .cons _ _ r, i + 1 => by show (r.drop i).len = r.len + 1 - (i + 1); rw [drop_len r i]; omega
theorem drop_size : ∀ (fr : Fr α) (i : Nat), (fr.drop i).size ≤ fr.size
  | fr, 0 => by rw [drop_zero]; exact Nat.le_refl _
  | .nil, i + 1 => Nat.le_refl _
  | .cons _ k r, i + 1 => by have := drop_size r i; show (r.drop i).size ≤ k.size + r.size + 1; omega
theorem size_pos {fr : Fr α} (h : fr.size = 0) : fr = .nil := by cases fr with | nil => rfl | cons a k r => simp [size] at h
theorem len_size : ∀ (fr : Fr α), fr.len ≤ fr.size
  | .nil => Nat.le_refl _
  | .cons _ k r => by have := len_size r; show r.len + 1 ≤ k.size + r.size + 1; omega
end Fr

section
variable {α : Type} (f : α → List Value) (w : World) (lo hi : Nat)
/-- The row's cells stand behind block b's place off; the blocks of all that lies within are from lo up to hi. -/
def FrIn : Fr α → Nat → Nat → Prop
  | .nil, _, _ => True
  | .cons a kids rest, b, off =>
    (∃ A c, (∀ j u, (f a ++ [Value.slice A kids.len c])[j]? = some u → w.cell? ⟨b, off + j, none⟩ = some u) ∧
      (0 < kids.len → ∃ b' o', A = some ⟨b', o', none⟩ ∧ lo ≤ b' ∧ b' < hi ∧ FrIn kids b' o')) ∧
    FrIn rest b (off + ((f a).length + 1))
/-- A slice value that holds the row. -/
def Sl (A : Option Addr) (fr : Fr α) : Prop := 0 < fr.len → ∃ b o, A = some ⟨b, o, none⟩ ∧ lo ≤ b ∧ b < hi ∧ FrIn f w lo hi fr b o
end
section
variable {α : Type} {f : α → List Value} {w w' : World} {lo hi lo' hi' m : Nat}
theorem FrIn.keep (hk : ∀ p : Addr, lo ≤ p.block → p.block < hi → w'.cell? p = w.cell? p) (hl : lo' ≤ lo) (hh : hi ≤ hi') : ∀ (fr : Fr α) (b off : Nat), lo ≤ b → b < hi → FrIn f w lo hi fr b off → FrIn f w' lo' hi' fr b off
  | .nil, _, _, _, _, _ => trivial
  | .cons a kids rest, b, off, h1, h2, h => by
    obtain ⟨⟨A, c, hc, hk'⟩, hr⟩ := h
    refine ⟨⟨A, c, fun j u hu => (hk ⟨b, off + j, none⟩ h1 h2).trans (hc j u hu), fun hp => ?_⟩, FrIn.keep hk hl hh rest b _ h1 h2 hr⟩
    obtain ⟨b', o', e, q1, q2, hi2⟩ := hk' hp
    exact ⟨b', o', e, by omega, by omega, FrIn.keep hk hl hh kids b' o' q1 q2 hi2⟩
theorem Sl.keep {A : Option Addr} {fr : Fr α} (h : Sl f w lo hi A fr) (hk : ∀ p : Addr, lo ≤ p.block → p.block < hi → w'.cell? p = w.cell? p) (hl : lo' ≤ lo) (hh : hi ≤ hi') : Sl f w' lo' hi' A fr := fun hp => by
  obtain ⟨b, o, e, h1, h2, h3⟩ := h hp
  exact ⟨b, o, e, by omega, by omega, FrIn.keep hk hl hh fr b o h1 h2 h3⟩
theorem Sl.below {A : Option Addr} {fr : Fr α} (h : Sl f w lo hi A fr) {B : Nat} (hb : Below B w w') (hB : hi ≤ B) : Sl f w' lo hi A fr := h.keep (fun _ _ h2 => hb.cell (by omega)) (Nat.le_refl _) (Nat.le_refl _)
theorem Sl.set {A : Option Addr} {fr : Fr α} (h : Sl f w lo hi A fr) {p : Addr} (hp : p.block < lo ∨ hi ≤ p.block) (u : Value) : Sl f (w.setCell p u) lo hi A fr := h.keep (fun q h1 h2 => World.cell?_setCell_other w p q u (fun e => by subst e; omega)) (Nat.le_refl _) (Nat.le_refl _)
theorem Sl.setb {A : Option Addr} {fr : Fr α} (h : Sl f w lo hi A fr) {b j : Nat} (hp : b < lo ∨ hi ≤ b) (u : Value) : Sl f (w.setCell ⟨b, j, none⟩ u) lo hi A fr := h.set (p := ⟨b, j, none⟩) hp u
theorem Sl.more {A : Option Addr} {fr : Fr α} (h : Sl f w lo hi A fr) (hl : lo' ≤ lo) (hh : hi ≤ hi') : Sl f w lo' hi' A fr := h.keep (fun _ _ _ => rfl) hl hh
theorem FrIn.drop (hf : ∀ a, (f a).length + 1 = m) : ∀ (fr : Fr α) (i b off : Nat), FrIn f w lo hi fr b off → FrIn f w lo hi (fr.drop i) b (off + i * m)
  | fr, 0, b, off, h => by rw [Fr.drop_zero, Nat.zero_mul, Nat.add_zero]; exact h
  | .nil, i + 1, b, off, _ => trivial
  | .cons a k r, i + 1, b, off, h => by
    have := FrIn.drop hf r i b _ h.2
    rw [hf a] at this
    rw [Nat.succ_mul, Nat.add_comm (i * m), ← Nat.add_assoc]
    exact this
/-- What stands at place i of a row. -/
theorem Sl.at_ (hf : ∀ a, (f a).length + 1 = m) {A : Option Addr} {fr : Fr α} (h : Sl f w lo hi A fr) {i : Nat} (hi' : i < fr.len) :
    ∃ b o a kids A' c', A = some ⟨b, o, none⟩ ∧ lo ≤ b ∧ b < hi ∧ fr.drop i = .cons a kids (fr.drop (i + 1)) ∧ kids.size < fr.size ∧
      (∀ j u, (f a ++ [Value.slice A' kids.len c'])[j]? = some u → w.cell? ⟨b, o + i * m + j, none⟩ = some u) ∧ Sl f w lo hi A' kids := by
  obtain ⟨b, o, e, h1, h2, h3⟩ := h (by omega)
  obtain ⟨a, kids, hd⟩ := fr.drop_at i hi'
  have h4 := FrIn.drop hf fr i b o h3
  rw [hd] at h4
  obtain ⟨⟨A', c', hc, hs⟩, _⟩ := h4
  have := fr.drop_size i
  rw [hd] at this
  exact ⟨b, o, a, kids, A', c', e, h1, h2, hd, by simp only [Fr.size] at this; omega, hc, hs⟩
/-- An element's cells: the label's, and the slice. -/
def rC (f : α → List Value) (x : α × Value) : List Value := f x.1 ++ [x.2]
theorem rC_len (hf : ∀ a, (f a).length + 1 = m) (x : α × Value) : (rC f x).length = m := by simp [rC, hf]
/-- The first k places of a list of labels and slices are the row's. -/
def FitsK (f : α → List Value) (w : World) (lo hi : Nat) (fr : Fr α) (l : List (α × Value)) (k : Nat) : Prop :=
  ∀ i, i < k → ∃ a kids A c, fr.drop i = .cons a kids (fr.drop (i + 1)) ∧ l[i]? = some (a, .slice A kids.len c) ∧ Sl f w lo hi A kids
theorem FitsK.zero (fr : Fr α) (l : List (α × Value)) : FitsK f w lo hi fr l 0 := fun i h => by omega
theorem FitsK.keep {fr : Fr α} {l : List (α × Value)} {k : Nat} (h : FitsK f w lo hi fr l k) (hk : ∀ p : Addr, lo ≤ p.block → p.block < hi → w'.cell? p = w.cell? p) (hl : lo' ≤ lo) (hh : hi ≤ hi') : FitsK f w' lo' hi' fr l k := fun i hi0 => by
  obtain ⟨a, kids, A, c, h1, h2, h3⟩ := h i hi0
  exact ⟨a, kids, A, c, h1, h2, h3.keep hk hl hh⟩
theorem FitsK.setb {fr : Fr α} {l : List (α × Value)} {k : Nat} (h : FitsK f w lo hi fr l k) {b j : Nat} (hp : b < lo ∨ hi ≤ b) (u : Value) : FitsK f (w.setCell ⟨b, j, none⟩ u) lo hi fr l k := fun i hi0 => by
  obtain ⟨a, kids, A, c, h1, h2, h3⟩ := h i hi0
  exact ⟨a, kids, A, c, h1, h2, h3.setb hp u⟩
theorem FitsK.set_ {fr : Fr α} {l : List (α × Value)} {k : Nat} (h : FitsK f w lo hi fr l k) (hk : k < l.length) {a : α} {kids : Fr α} {A : Option Addr} {c : Nat} (hd : fr.drop k = .cons a kids (fr.drop (k + 1))) (hS : Sl f w lo hi A kids) :
    FitsK f w lo hi fr (l.set k (a, .slice A kids.len c)) (k + 1) := fun i hi0 => by
  by_cases hik : i = k
  · subst hik
    exact ⟨a, kids, A, c, hd, by rw [List.getElem?_set_self (by omega)], hS⟩
  · obtain ⟨a', kids', A', c', h1, h2, h3⟩ := h i (by omega)
    exact ⟨a', kids', A', c', h1, by rw [List.getElem?_set_ne (by omega)]; exact h2, h3⟩
theorem FrIn.of_fits : ∀ (fr : Fr α) (l : List (α × Value)) (b off : Nat), l.length = fr.len → FitsK f w lo hi fr l fr.len → (∀ j u, (flat (rC f) l)[j]? = some u → w.cell? ⟨b, off + j, none⟩ = some u) → FrIn f w lo hi fr b off
  | .nil, _, _, _, _, _, _ => trivial
  | .cons a k r, [], _, _, h, _, _ => by simp [Fr.len] at h
  | .cons a k r, x :: l, b, off, h, hF, hc => by
    obtain ⟨a', k', A, c, h1, h2, h3⟩ := hF 0 (by simp [Fr.len])
    rw [Fr.drop_zero] at h1
    injection h1 with e1 e2 e3
    subst e1 e2
    simp only [List.getElem?_cons_zero, Option.some.injEq] at h2
    subst h2
    rw [flat_cons] at hc
    have hl : (rC f (a, Value.slice A k.len c)).length = (f a).length + 1 := by simp [rC]
    refine ⟨⟨A, c, fun j u hu => hc j u ?_, h3⟩, ?_⟩
    · have hj : j < (rC f (a, Value.slice A k.len c)).length := by
        rcases Nat.lt_or_ge j (rC f (a, Value.slice A k.len c)).length with h | h
        · exact h
        · exact absurd hu (by rw [show (f a ++ [Value.slice A k.len c])[j]? = none from List.getElem?_eq_none h]; simp)
      rw [List.getElem?_append_left hj]
      exact hu
    · refine FrIn.of_fits r l b _ (by simpa [Fr.len] using h) (fun i hi' => ?_) (fun j u hu => ?_)
      · obtain ⟨a', k', A', c', h1, h2, h3⟩ := hF (i + 1) (by simp [Fr.len]; exact hi')
        exact ⟨a', k', A', c', h1, by simpa using h2, h3⟩
      · have := hc (((f a).length + 1) + j) u (by
          rw [List.getElem?_append_right (by rw [hl]; omega), hl, Nat.add_sub_cancel_left]
          exact hu)
        rw [← Nat.add_assoc] at this
        exact this
/-- What is asked of each label, and that no slice is too long. -/
def FrOk (Q : α → Prop) : Fr α → Prop
  | .nil => True
  | .cons a k r => Q a ∧ k.len ≤ 9223372036854775807 ∧ FrOk Q k ∧ FrOk Q r
theorem FrOk.drop {Q : α → Prop} : ∀ {fr : Fr α} (i : Nat), FrOk Q fr → FrOk Q (fr.drop i)
  | fr, 0, h => by rw [Fr.drop_zero]; exact h
  | .nil, i + 1, _ => trivial
  | .cons _ _ r, i + 1, h => FrOk.drop (fr := r) i h.2.2.2
theorem fr_of_list {q : α → Prop} : ∀ (l : List (α × Value)), (∀ x ∈ l, ∃ (A : Option Addr) (c : Nat) (kids : Fr α), x.2 = .slice A kids.len c ∧ Sl f w lo hi A kids ∧ kids.len ≤ 9223372036854775807 ∧ FrOk q kids ∧ q x.1) →
    ∃ fr : Fr α, fr.len = l.length ∧ FitsK f w lo hi fr l fr.len ∧ FrOk q fr
  | [], _ => ⟨.nil, rfl, FitsK.zero _ _, trivial⟩
  | x :: l, h => by
    obtain ⟨fr, h1, h2, h3⟩ := fr_of_list l (fun y hy => h y (List.mem_cons_of_mem _ hy))
    obtain ⟨A, c, kids, e, hS, hl, hq, ha⟩ := h x (List.mem_cons_self ..)
    obtain ⟨a, v⟩ := x
    simp only at e ha
    subst e
    refine ⟨.cons a kids fr, by simp [Fr.len, h1], fun i hi' => ?_, ha, hl, hq, h3⟩
    cases i with
    | zero => exact ⟨a, kids, A, c, by rw [Fr.drop_zero]; show _ = Fr.cons a kids (fr.drop 0); rw [Fr.drop_zero], rfl, hS⟩
    | succ i =>
      obtain ⟨a', k', A', c', q1, q2, q3⟩ := h2 i (by simp [Fr.len] at hi'; exact hi')
      exact ⟨a', k', A', c', q1, by simpa using q2, q3⟩
/-- How many nodes and bytes there are. -/
def wt (g : α → Nat) : Fr α → Nat
  | .nil => 0
  | .cons a k r => 1 + g a + wt g k + wt g r
theorem len_wt (g : α → Nat) : ∀ fr : Fr α, fr.len ≤ wt g fr
  | .nil => Nat.le_refl _
  | .cons _ k r => by have := len_wt g r; show r.len + 1 ≤ _; simp only [wt]; omega
theorem size_wt (g : α → Nat) : ∀ fr : Fr α, fr.size ≤ wt g fr
  | .nil => Nat.le_refl _
  | .cons _ k r => by have := size_wt g r; have := size_wt g k; simp only [wt, Fr.size]; omega
theorem wt_drop (g : α → Nat) : ∀ (fr : Fr α) (i : Nat), wt g (fr.drop i) ≤ wt g fr
  | fr, 0 => by rw [Fr.drop_zero]; exact Nat.le_refl _
  | .nil, i + 1 => Nat.le_refl _
  | .cons _ k r, i + 1 => by have := wt_drop g r i; show wt g (r.drop i) ≤ _; simp only [wt]; omega
end

end Go.Proofs.Ytalnkdbmbjplpaa
