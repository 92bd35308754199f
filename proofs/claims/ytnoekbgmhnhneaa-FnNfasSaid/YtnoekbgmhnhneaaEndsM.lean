/- Words for memory: rows of yes and no (Vec, VecR), rows of such rows (MatK, Mat). No program in sight. -/
import Derived.Test.YtnoekbgmhnhneaaQ0
import Derived.Test.YtnoekbgmhnhneaaEndsR
namespace Go.Proofs.Ytnoekbgmhnhneaa
open Go.RowKit

theorem info_bool : (Try.prog.info? 4).map (fun i => (i.zero, i.size, i.bytes)) = some (some (.bool false), 1, 1) := by kernel_rfl
theorem info_bools : (Try.prog.info? 99).map (fun i => (i.zero, i.size, i.bytes)) = some (some (.slice none 0 0), 1, 24) := by kernel_rfl
/-- A row of m places of the call's own. -/
def Vec (w : World) (lo hi : Nat) (v : Value) (m : Nat) (V : Nat → Bool) : Prop := Row w lo hi 4 1 v m (bools V m)
/-- A slice value that reads as m places. -/
def VecR (w : World) (B : Nat) (A : Option Addr) (m : Nat) (V : Nat → Bool) : Prop := Reads w B 1 A m (bools V m)
section
variable {w w' : World} {lo hi m g c : Nat} {v : Value} {V V' : Nat → Bool}
theorem Vec.form (h : Vec w lo hi v m V) (hm : 0 < m) : ∃ g c, v = .slice (some ⟨g, 0, none⟩) m c ∧ lo ≤ g ∧ g < hi := by
  obtain ⟨A, c, rfl⟩ := Row.form h
  obtain ⟨g, rfl, h1, _⟩ := own_blk h.1 hm
  exact ⟨g, c, rfl, h1, h.2 g rfl⟩
theorem Vec.cell (h : Vec w lo hi (.slice (some ⟨g, 0, none⟩) m c) m V) {k : Nat} (hk : k < m) : w.cell? ⟨g, k, none⟩ = some (.bool (V k)) := by
  rw [h.1.cellAt k (by omega), bools_get V hk]
theorem Vec.frozen (h : Vec w lo hi (.slice (some ⟨g, 0, none⟩) m c) m V) (k : Nat) : w.frozen? ⟨g, k, none⟩ = false := h.1.frozenAt k
theorem Vec.set (h : Vec w lo hi (.slice (some ⟨g, 0, none⟩) m c) m V) {k : Nat} (b : Bool) : Vec (w.setCell ⟨g, k, none⟩ (.bool b)) lo hi (.slice (some ⟨g, 0, none⟩) m c) m (upd V k b) :=
  ⟨by rw [← bools_set V]; exact (h.1.stored k _).1, h.2⟩
theorem Vec.keep (h : Vec w lo hi v m V) (hb : Below w.heap.size w w') : Vec w' lo hi v m V := Row.keep h hb
theorem Vec.more (h : Vec w lo hi v m V) {lo' hi' : Nat} (h1 : lo' ≤ lo) (h2 : hi ≤ hi') : Vec w lo' hi' v m V := Row.more h h1 h2
theorem Vec.drew (h : Vec w lo hi v m V) : Vec w.drew lo hi v m V := ⟨h.1.drew, h.2⟩
theorem Vec.congr (h : Vec w lo hi v m V) (he : ∀ j, j < m → V j = V' j) : Vec w lo hi v m V' := by
  unfold Vec at h ⊢
  rw [← bools_congr he]
  exact h
theorem Vec.farb (h : Vec w lo hi (.slice (some ⟨g, 0, none⟩) m c) m V) {b j : Nat} (hb : g ≠ b) (u : Value) : Vec (w.setCell ⟨b, j, none⟩ u) lo hi (.slice (some ⟨g, 0, none⟩) m c) m V :=
  ⟨ownsRow_setCell_other h.1 (by simp [Value.ownBlock]; exact hb) u, h.2⟩
theorem Vec.reads {A : Option Addr} (h : Vec w lo hi (.slice A m c) m V) : VecR w w.heap.size A m V := Reads.of_own h.1
theorem VecR.at_ {A : Option Addr} {B : Nat} (h : VecR w B A m V) (hm : 0 < m) : ∃ b off, A = some ⟨b, off, none⟩ ∧ b < B ∧ ∀ k, k < m → w.cell? ⟨b, off + k, none⟩ = some (.bool (V k)) := by
  obtain ⟨b, off, e, hb, hc⟩ := h.2 hm
  exact ⟨b, off, e, hb, fun k hk => hc k _ (bools_get V hk)⟩
theorem VecR.keep {A : Option Addr} {B B' : Nat} (h : VecR w B A m V) (hb : Below B w w') (hB : B ≤ B') : VecR w' B' A m V := (Reads.below h hb).more hB
theorem VecR.setb {A : Option Addr} {B b j : Nat} (h : VecR w B A m V) (hp : B ≤ b) (u : Value) : VecR (w.setCell ⟨b, j, none⟩ u) B A m V := Reads.setCell (p := ⟨b, j, none⟩) h hp u
theorem VecR.congr {A : Option Addr} {B : Nat} (h : VecR w B A m V) (he : ∀ j, j < m → V j = V' j) : VecR w B A m V' := by
  unfold VecR at h ⊢
  rw [← bools_congr he]
  exact h
theorem own_ne {b b' size size' n n' : Nat} {e e' : TypeId} {v' : Value} {xs xs' : List Value} (h : w.ownsRow b e size v n xs) (h' : w.ownsRow b' e' size' v' n' xs') (hne : e ≠ e') {g : Nat} (hg : v'.ownBlock = some g) : v.ownBlock ≠ some g := by
  rcases h'.2 with ⟨rfl, _⟩ | ⟨g', cap, cur, rfl, _, hh, _⟩
  · simp [Value.ownBlock] at hg
  · have : g' = g := by simpa [Value.ownBlock] using hg
    subst this
    exact own_blk_ne h hh hne
end
/-- The values of rows. -/
def rowsV (g : Nat → Nat) (m k : Nat) : List Value := (List.range k).map fun i => .slice (some ⟨g i, 0, none⟩) m m
theorem rowsV_len (g : Nat → Nat) (m k : Nat) : (rowsV g m k).length = k := by simp [rowsV]
theorem rowsV_get (g : Nat → Nat) (m : Nat) {k i : Nat} (hi : i < k) : (rowsV g m k)[i]? = some (.slice (some ⟨g i, 0, none⟩) m m) := by
  unfold rowsV
  rw [List.getElem?_map, List.getElem?_range hi]
  rfl
/-- k rows of m places, each of its own block. -/
def MatK (w : World) (lo hi : Nat) (v : Value) (m k : Nat) (g : Nat → Nat) (M : Nat → Nat → Bool) : Prop :=
  Row w lo hi 99 1 v k (rowsV g m k) ∧ (∀ i, i < k → Vec w lo hi (.slice (some ⟨g i, 0, none⟩) m m) m (M i)) ∧ ∀ i j, i < k → j < k → g i = g j → i = j
section
variable {w w' : World} {lo hi m k : Nat} {v : Value} {g : Nat → Nat} {M M' : Nat → Nat → Bool}
theorem MatK.ne_ (h : MatK w lo hi v m k g M) {i : Nat} (hi' : i < k) : v.ownBlock ≠ some (g i) := own_ne h.1.1 (h.2.1 i hi').1 (by decide) rfl
theorem MatK.zero (w : World) (lo hi m : Nat) (g : Nat → Nat) (M : Nat → Nat → Bool) : MatK w lo hi (.slice none 0 0) m 0 g M :=
  ⟨⟨World.ownsRow_nil _ _ _ _, fun k hk => by simp [Value.ownBlock] at hk⟩, fun i hi => absurd hi (Nat.not_lt_zero _), fun i j hi => absurd hi (Nat.not_lt_zero _)⟩
theorem MatK.keep (h : MatK w lo hi v m k g M) (hb : Below w.heap.size w w') : MatK w' lo hi v m k g M := ⟨h.1.keep hb, fun i hi => (h.2.1 i hi).keep hb, h.2.2⟩
theorem MatK.drew (h : MatK w lo hi v m k g M) : MatK w.drew lo hi v m k g M := ⟨⟨h.1.1.drew, h.1.2⟩, fun i hi => (h.2.1 i hi).drew, h.2.2⟩
theorem MatK.more (h : MatK w lo hi v m k g M) {lo' hi' : Nat} (h1 : lo' ≤ lo) (h2 : hi ≤ hi') : MatK w lo' hi' v m k g M := ⟨h.1.more h1 h2, fun i hi => (h.2.1 i hi).more h1 h2, h.2.2⟩
theorem MatK.congr (h : MatK w lo hi v m k g M) (he : ∀ i, i < k → ∀ j, j < m → M i j = M' i j) : MatK w lo hi v m k g M' := ⟨h.1, fun i hi => (h.2.1 i hi).congr (he i hi), h.2.2⟩
theorem MatK.form (h : MatK w lo hi v m k g M) (hk : 0 < k) : ∃ b c, v = .slice (some ⟨b, 0, none⟩) k c ∧ lo ≤ b ∧ b < hi ∧ ∀ i, i < k → w.cell? ⟨b, i, none⟩ = some (.slice (some ⟨g i, 0, none⟩) m m) := by
  obtain ⟨A, c, rfl⟩ := Row.form h.1
  obtain ⟨b, rfl, h1, _⟩ := own_blk h.1.1 hk
  exact ⟨b, c, rfl, h1, h.1.2 b rfl, fun i hi => by rw [h.1.1.cellAt i (by omega), rowsV_get g m hi]⟩
theorem MatK.row {b c : Nat} (h : MatK w lo hi (.slice (some ⟨b, 0, none⟩) k c) m k g M) {i : Nat} (hi' : i < k) : w.cell? ⟨b, i, none⟩ = some (.slice (some ⟨g i, 0, none⟩) m m) := by
  rw [h.1.1.cellAt i (by omega), rowsV_get g m hi']
theorem MatK.cell (h : MatK w lo hi v m k g M) {i j : Nat} (hi' : i < k) (hj : j < m) : w.cell? ⟨g i, j, none⟩ = some (.bool (M i j)) := (h.2.1 i hi').cell hj
theorem MatK.lt (h : MatK w lo hi v m k g M) {i : Nat} (hi' : i < k) : lo ≤ g i ∧ g i < hi := ⟨((h.2.1 i hi').1.lt (g i) rfl).1, (h.2.1 i hi').2 (g i) rfl⟩
theorem MatK.frozen (h : MatK w lo hi v m k g M) {i : Nat} (hi' : i < k) (j : Nat) : w.frozen? ⟨g i, j, none⟩ = false := (h.2.1 i hi').frozen j
/-- A place of a row is set. -/
theorem MatK.set (h : MatK w lo hi v m k g M) {i j : Nat} (hi' : i < k) (b : Bool) : MatK (w.setCell ⟨g i, j, none⟩ (.bool b)) lo hi v m k g (updM M i j b) := by
  refine ⟨⟨ownsRow_setCell_other h.1.1 (h.ne_ hi') _, h.1.2⟩, fun x hx => ?_, h.2.2⟩
  by_cases e : x = i
  · subst e
    rw [updM_row]
    exact (h.2.1 x hx).set b
  · rw [updM_other _ _ _ e]
    exact (h.2.1 x hx).farb (fun e' => e (h.2.2 x i hx hi' e')) _
/-- A place of another block is set. -/
theorem MatK.farb (h : MatK w lo hi v m k g M) {b j : Nat} (hb : b < lo ∨ hi ≤ b) (u : Value) : MatK (w.setCell ⟨b, j, none⟩ u) lo hi v m k g M := by
  refine ⟨⟨ownsRow_setCell_other h.1.1 (fun e => ?_) _, h.1.2⟩, fun x hx => (h.2.1 x hx).farb (fun e => ?_) _, h.2.2⟩
  · have h1 := (h.1.1.lt _ e).1
    have h2 := h.1.2 _ e
    simp only at h1 h2
    omega
  · have := h.lt hx
    omega
/-- A function with one value set. -/
def putF {α : Type} (g : Nat → α) (k : Nat) (b : α) : Nat → α := fun i => if i = k then b else g i
theorem putF_same {α : Type} (g : Nat → α) (k : Nat) (b : α) : putF g k b k = b := if_pos rfl
theorem putF_other {α : Type} (g : Nat → α) {k i : Nat} (b : α) (h : i ≠ k) : putF g k b i = g i := if_neg h
/-- One row more. -/
theorem MatK.snoc {w1 w2 : World} {v' : Value} {V : Nat → Bool} (h : MatK w lo hi v m k g M) (b1 : Below w.heap.size w w1) (hO : w1.ownsRow w.heap.size 4 1 (.slice (some ⟨w.heap.size, 0, none⟩) m m) m (bools V m))
    (hO2 : w2.ownsRow lo 99 1 v' (k + 1) (rowsV g m k ++ [.slice (some ⟨w.heap.size, 0, none⟩) m m])) (hg : w1.grownBy w2 v.ownBlock) (hlo : lo ≤ w.heap.size) (hhi : hi ≤ w.heap.size) :
    MatK w2 lo w2.heap.size v' m (k + 1) (putF g k w.heap.size) (putF M k V) := by
  have hr : rowsV g m k ++ [.slice (some ⟨w.heap.size, 0, none⟩) m m] = rowsV (putF g k w.heap.size) m (k + 1) := by
    unfold rowsV
    rw [List.range_succ, List.map_append, List.map_cons, List.map_nil, putF_same]
    congr 1
    exact List.map_congr_left fun i hi => by rw [putF_other g _ (by have := List.mem_range.1 hi; omega)]
  rw [hr] at hO2
  have h1 := h.keep b1
  have hgs := hg.size
  have hlt := (hO.lt _ rfl).2
  simp only at hlt
  refine ⟨Row.mk hO2, fun i hi' => ?_, fun i j hi' hj e => ?_⟩
  · by_cases e : i = k
    · subst e
      rw [putF_same, putF_same]
      exact Row.mk (own_base (hO.kept hg (.inr (fun e => own_ne h1.1.1 hO (by decide) rfl e.symm))) hlo)
    · rw [putF_other _ _ e, putF_other _ _ e]
      have hik : i < k := by omega
      refine ⟨(h1.2.1 i hik).1.kept hg (.inr (fun e => h1.ne_ hik e.symm)), fun b hb => ?_⟩
      have := (h1.2.1 i hik).2 b hb
      omega
  · have hl : ∀ x, x < k → g x < w.heap.size := fun x hx => by have := h.lt hx; omega
    by_cases e1 : i = k
    · by_cases e2 : j = k
      · omega
      · rw [e1, putF_same, putF_other _ _ e2] at e
        have := hl j (by omega)
        omega
    · by_cases e2 : j = k
      · rw [putF_other _ _ e1, e2, putF_same] at e
        have := hl i (by omega)
        omega
      · rw [putF_other _ _ e1, putF_other _ _ e2] at e
        exact h.2.2 i j (by omega) (by omega) e
end
/-- A matrix says of each two places what a relation says. -/
def IsM (m : Nat) (M : Nat → Nat → Bool) (R : Rel) : Prop := ∀ x y, x < m → y < m → (M x y = true ↔ R x y)
/-- It hands back a new matrix. -/
def RetM (m : Nat) (R : Rel) (w : World) (e : Ending) (w' : World) : Prop := ∃ (v : Value) (g : Nat → Nat) (M : Nat → Nat → Bool), e = .returned v ∧ MatK w' w.heap.size w'.heap.size v m m g M ∧ IsM m M R
/-- It hands back a new row of yes and no. -/
def RetV (m : Nat) (V : Nat → Bool) (w : World) (e : Ending) (w' : World) : Prop := ∃ v, e = .returned v ∧ Vec w' w.heap.size w'.heap.size v m V
/-- It hands back a new row of numbers. -/
def ints (l : List Nat) : List Value := l.map fun (n : Nat) => .int .i64 (n : Int)
def RetI (l : List Nat) (w : World) (e : Ending) (w' : World) : Prop := ∃ v, e = .returned v ∧ Row w' w.heap.size w'.heap.size 3 1 v l.length (ints l)
theorem ints_snoc (l : List Nat) (n : Nat) : ints l ++ [.int .i64 (n : Int)] = ints (l ++ [n]) := by simp [ints]
theorem ints_get (l : List Nat) {i : Nat} (hi : i < l.length) : (ints l)[i]? = some (.int .i64 (l[i] : Int)) := by
  unfold ints
  rw [List.getElem?_map, List.getElem?_eq_getElem hi]
  rfl

end Go.Proofs.Ytnoekbgmhnhneaa
