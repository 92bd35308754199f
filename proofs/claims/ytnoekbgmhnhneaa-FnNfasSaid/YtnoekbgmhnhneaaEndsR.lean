/- Where expressions end: relations between places, rows of yes and no, what the loops keep. No program in sight. -/
import Derived.Laws.Rows
namespace Go.Proofs.Ytnoekbgmhnhneaa

/-- A proposition as yes or no. -/
noncomputable def bof (p : Prop) : Bool := @decide p (Classical.propDecidable p)
theorem bof_iff {p : Prop} : bof p = true ↔ p := by unfold bof; exact @decide_eq_true_iff p (Classical.propDecidable p)
theorem eq_bof {b : Bool} {p : Prop} (h : b = true ↔ p) : b = bof p := by
  cases hb : bof p with
  | true => exact h.2 (bof_iff.1 hb)
  | false =>
    cases b with
    | false => rfl
    | true => exact absurd (bof_iff.2 (h.1 rfl)) (by rw [hb]; exact Bool.false_ne_true)
theorem bof_congr {p q : Prop} (h : p ↔ q) : bof p = bof q := eq_bof (bof_iff.trans h)
/-- Where what begins at a place may end. -/
abbrev Rel := Nat → Nat → Prop
def idR : Rel := fun i j => i = j
def noR : Rel := fun _ _ => False
def orR (a b : Rel) : Rel := fun i j => a i j ∨ b i j
def compR (a b : Rel) : Rel := fun i j => ∃ k, a i k ∧ b k j
/-- As many as may be. -/
inductive starR (a : Rel) : Rel
  | refl (i : Nat) : starR a i i
  | step {i k j : Nat} : a i k → starR a k j → starR a i j
theorem starR.snoc {a : Rel} {i k j : Nat} (h : starR a i k) (hk : a k j) : starR a i j := by
  induction h with
  | refl _ => exact .step hk (.refl _)
  | step h1 _ ih => exact .step h1 (ih hk)
/-- A relation goes onward, and not behind m - 1. -/
def Fwd (m : Nat) (a : Rel) : Prop := ∀ i j, i < m → a i j → i ≤ j ∧ j < m
theorem fwd_id (m : Nat) : Fwd m idR := fun i j hi h => by unfold idR at h; omega
theorem fwd_no (m : Nat) : Fwd m noR := fun _ _ _ h => h.elim
theorem Fwd.or_ {m : Nat} {a b : Rel} (ha : Fwd m a) (hb : Fwd m b) : Fwd m (orR a b) := fun i j hi h => h.elim (ha i j hi) (hb i j hi)
theorem Fwd.comp {m : Nat} {a b : Rel} (ha : Fwd m a) (hb : Fwd m b) : Fwd m (compR a b) := fun i j hi ⟨k, h1, h2⟩ => by
  have := ha i k hi h1
  have := hb k j this.2 h2
  omega
theorem Fwd.star {m : Nat} {a : Rel} (ha : Fwd m a) : Fwd m (starR a) := fun i j hi h => by
  induction h with
  | refl _ => omega
  | step h1 _ ih =>
    have := ha _ _ hi h1
    have := ih this.2
    omega
/-- A first step goes further. -/
theorem starR.far {m : Nat} {a : Rel} (ha : Fwd m a) {i j : Nat} (hi : i < m) : starR a i j ↔ i = j ∨ ∃ k, i < k ∧ k < m ∧ a i k ∧ starR a k j := by
  constructor
  · intro h
    induction h with
    | refl _ => exact .inl rfl
    | @step i k j h1 h2 ih =>
      have := ha _ _ hi h1
      rcases Nat.lt_or_ge i k with h3 | h3
      · exact .inr ⟨k, h3, this.2, h1, h2⟩
      · have : k = i := by omega
        subst this
        exact ih hi
  · rintro (rfl | ⟨k, _, _, h1, h2⟩)
    · exact .refl _
    · exact .step h1 h2
/-- Yes and no as a row. -/
def bools (V : Nat → Bool) (m : Nat) : List Value := (List.range m).map fun j => Value.bool (V j)
theorem bools_len (V : Nat → Bool) (m : Nat) : (bools V m).length = m := by simp [bools]
theorem bools_get (V : Nat → Bool) {m j : Nat} (hj : j < m) : (bools V m)[j]? = some (.bool (V j)) := by
  unfold bools
  rw [List.getElem?_map, List.getElem?_range hj]
  rfl
theorem bools_congr {V V' : Nat → Bool} {m : Nat} (h : ∀ j, j < m → V j = V' j) : bools V m = bools V' m := by
  unfold bools
  exact List.map_congr_left fun j hj => by rw [h j (List.mem_range.1 hj)]
theorem bools_zero (m : Nat) : List.replicate m (Value.bool false) = bools (fun _ => false) m := by
  apply List.ext_getElem?
  intro j
  rcases Nat.lt_or_ge j m with h | h
  · rw [bools_get _ h, List.getElem?_replicate, if_pos h]
  · rw [List.getElem?_eq_none (by simp; exact h), List.getElem?_eq_none (by rw [bools_len]; exact h)]
/-- A place is set. -/
def upd (V : Nat → Bool) (k : Nat) (b : Bool) : Nat → Bool := fun j => if j = k then b else V j
theorem upd_same (V : Nat → Bool) (k : Nat) (b : Bool) : upd V k b k = b := if_pos rfl
theorem upd_other (V : Nat → Bool) {k j : Nat} (b : Bool) (h : j ≠ k) : upd V k b j = V j := if_neg h
theorem bools_set (V : Nat → Bool) {m k : Nat} (b : Bool) : (bools V m).set k (.bool b) = bools (upd V k b) m := by
  apply List.ext_getElem?
  intro j
  rcases Nat.lt_or_ge j m with h | h
  · rw [bools_get _ h, List.getElem?_set]
    split
    · rename_i e
      subst e
      rw [if_pos (by rw [bools_len]; exact h), upd_same]
    · rename_i e
      rw [bools_get _ h, upd_other V b (fun e' => e e'.symm)]
  · rw [List.getElem?_eq_none (by simp [bools_len]; exact h), List.getElem?_eq_none (by rw [bools_len]; exact h)]
/-- The places that are told, ascending. -/
def rowI (V : Nat → Bool) (m : Nat) : List Nat := (List.range m).filter V
theorem rowI_zero (V : Nat → Bool) : rowI V 0 = [] := rfl
theorem rowI_yes {V : Nat → Bool} {k : Nat} (h : V k = true) : rowI V (k + 1) = rowI V k ++ [k] := by
  unfold rowI
  rw [List.range_succ, List.filter_append, List.filter_cons_of_pos h]
  rfl
theorem rowI_no {V : Nat → Bool} {k : Nat} (h : V k = false) : rowI V (k + 1) = rowI V k := by
  unfold rowI
  rw [List.range_succ, List.filter_append, List.filter_cons_of_neg (by rw [h]; exact Bool.false_ne_true)]
  simp
theorem rowI_congr {V V' : Nat → Bool} {m : Nat} (h : ∀ j, j < m → V j = V' j) : rowI V m = rowI V' m := by
  unfold rowI
  exact List.filter_congr fun j hj => h j (List.mem_range.1 hj)
theorem rowI_len (V : Nat → Bool) (m : Nat) : (rowI V m).length ≤ m := by
  have := List.length_filter_le V (List.range m)
  rw [List.length_range] at this
  exact this
theorem rowI_lt {V : Nat → Bool} {m x : Nat} (h : x ∈ rowI V m) : x < m := List.mem_range.1 (List.mem_filter.1 h).1
/-- What may be reached of some places. -/
def img (m : Nat) (V : Nat → Bool) (R : Rel) : Nat → Prop := fun j => ∃ i, i < m ∧ V i = true ∧ R i j
theorem img_bof (m : Nat) (V : Nat → Bool) (R S : Rel) (hR : Fwd m R) (j : Nat) : img m (fun k => bof (img m V R k)) S j ↔ img m V (compR R S) j := by
  constructor
  · rintro ⟨k, _, h1, h2⟩
    obtain ⟨i, hi, h3, h4⟩ := bof_iff.1 h1
    exact ⟨i, hi, h3, k, h4, h2⟩
  · rintro ⟨i, hi, h3, k, h4, h2⟩
    exact ⟨k, (hR i k hi h4).2, bof_iff.2 ⟨i, hi, h3, h4⟩, h2⟩
/-- How many are no. -/
def noes (V : Nat → Bool) (m : Nat) : Nat := (List.range m).countP fun j => !V j
theorem noes_le (V : Nat → Bool) (m : Nat) : noes V m ≤ m := by
  have := List.countP_le_length (p := fun j => !V j) (l := List.range m)
  rw [List.length_range] at this
  exact this
theorem noes_lt {V V' : Nat → Bool} {m : Nat} (h : ∀ j, j < m → V j = true → V' j = true) {k : Nat} (hk : k < m) (h1 : V k = false) (h2 : V' k = true) : noes V' m < noes V m := by
  unfold noes
  rw [List.countP_eq_length_filter, List.countP_eq_length_filter]
  have hsub : ((List.range m).filter fun j => !V' j) = ((List.range m).filter fun j => !V j).filter fun j => !V' j := by
    rw [List.filter_filter]
    apply List.filter_congr
    intro j hj
    have := h j (List.mem_range.1 hj)
    cases hv : V j with
    | true => rw [this hv]; rfl
    | false => simp
  rw [hsub]
  have hk' : k ∈ (List.range m).filter fun j => !V j := List.mem_filter.2 ⟨List.mem_range.2 hk, by rw [h1]; rfl⟩
  have hle := List.length_filter_le (fun j => !V' j) ((List.range m).filter fun j => !V j)
  rcases Nat.lt_or_ge (((List.range m).filter fun j => !V j).filter fun j => !V' j).length ((List.range m).filter fun j => !V j).length with h3 | h3
  · exact h3
  · have := List.length_filter_eq_length_iff.1 (Nat.le_antisymm hle h3) k hk'
    rw [h2] at this
    cases this

/-- One is added to another: k places are done. -/
def JoinI (V W V' : Nat → Bool) (k : Nat) (g : Bool) : Prop := (∀ j, V' j = (V j || (decide (j < k) && W j))) ∧ (g = true ↔ ∃ j, j < k ∧ W j = true ∧ V j = false)
theorem JoinI.zero (V W : Nat → Bool) : JoinI V W V 0 false := ⟨fun j => by simp, by simp⟩
theorem joinStep (V W : Nat → Bool) {k : Nat} (h : W k = false ∨ V k = true) (j : Nat) : (V j || (decide (j < k + 1) && W j)) = (V j || (decide (j < k) && W j)) := by
  by_cases e : j = k
  · subst e
    rcases h with h | h <;> rw [h] <;> simp
  · rw [show decide (j < k + 1) = decide (j < k) from decide_eq_decide.2 (by omega)]
theorem JoinI.skip {V W V' : Nat → Bool} {k : Nat} {g : Bool} (h : JoinI V W V' k g) (hn : W k = false ∨ V' k = true) : JoinI V W V' (k + 1) g := by
  have hv : W k = false ∨ V k = true := by
    rcases hn with h1 | h1
    · exact .inl h1
    · rw [h.1 k] at h1
      simp at h1
      exact .inr h1
  refine ⟨fun j => by rw [joinStep V W hv j, h.1 j], h.2.trans ?_⟩
  constructor
  · rintro ⟨j, h1, h2, h3⟩
    exact ⟨j, by omega, h2, h3⟩
  · rintro ⟨j, h1, h2, h3⟩
    refine ⟨j, ?_, h2, h3⟩
    rcases Nat.lt_or_ge j k with h4 | h4
    · exact h4
    · have : j = k := by omega
      subst this
      rcases hv with h5 | h5
      · rw [h5] at h2; cases h2
      · rw [h5] at h3; cases h3
theorem JoinI.put {V W V' : Nat → Bool} {k : Nat} {g : Bool} (h : JoinI V W V' k g) (hw : W k = true) (hv : V' k = false) : JoinI V W (upd V' k true) (k + 1) true := by
  have hv0 : V k = false := by
    rw [h.1 k] at hv
    simp at hv
    exact hv
  refine ⟨fun j => ?_, ⟨fun _ => ⟨k, by omega, hw, hv0⟩, fun _ => rfl⟩⟩
  by_cases e : j = k
  · subst e
    rw [upd_same, hw]
    simp
  · rw [upd_other _ _ e, h.1 j, show decide (j < k + 1) = decide (j < k) from decide_eq_decide.2 (by omega)]

/-- While one goes on with another: rows ahead of i are done, of row i what goes over places ahead of k, and over k to places ahead of j. -/
def ThenI (m : Nat) (a b : Rel) (M : Nat → Nat → Bool) (i k j : Nat) : Prop :=
  ∀ x y, x < m → y < m → (M x y = true ↔ ∃ z, x ≤ z ∧ z ≤ y ∧ (x < i ∨ x = i ∧ (z < k ∨ z = k ∧ y < j)) ∧ a x z ∧ b z y)
theorem ThenI.zero {m : Nat} {M : Nat → Nat → Bool} (h : ∀ x y, x < m → y < m → (M x y = true ↔ noR x y)) (a b : Rel) : ThenI m a b M 0 0 0 := fun x y hx hy => (h x y hx hy).trans ⟨fun h => h.elim, fun ⟨z, h1, h2, h3, _⟩ => absurd h3 (by omega)⟩
/-- Row by row. -/
theorem ThenI.row {m : Nat} {a b : Rel} {M : Nat → Nat → Bool} {i j : Nat} (h : ThenI m a b M i m j) : ThenI m a b M (i + 1) (i + 1) 0 := fun x y hx hy => (h x y hx hy).trans
  ⟨fun ⟨z, h1, h2, h3, h4⟩ => ⟨z, h1, h2, by omega, h4⟩, fun ⟨z, h1, h2, h3, h4⟩ => ⟨z, h1, h2, by omega, h4⟩⟩
/-- Nothing goes over k. -/
theorem ThenI.none_ {m : Nat} {a b : Rel} {M : Nat → Nat → Bool} {i k : Nat} (h : ThenI m a b M i k k) (hn : ¬ a i k) : ThenI m a b M i (k + 1) (k + 1) := fun x y hx hy => (h x y hx hy).trans
  ⟨fun ⟨z, h1, h2, h3, h4⟩ => ⟨z, h1, h2, by omega, h4⟩, fun ⟨z, h1, h2, h3, h4⟩ => ⟨z, h1, h2, by
    rcases h3 with h3 | ⟨rfl, h3 | h3⟩
    · exact .inl h3
    · rcases Nat.lt_or_ge z k with h5 | h5
      · exact .inr ⟨rfl, .inl h5⟩
      · have : z = k := by omega
        subst this
        exact absurd h4.1 hn
    · omega, h4⟩⟩
theorem ThenI.over {m : Nat} {a b : Rel} {M : Nat → Nat → Bool} {i k : Nat} (h : ThenI m a b M i k m) : ThenI m a b M i (k + 1) (k + 1) := fun x y hx hy => (h x y hx hy).trans
  ⟨fun ⟨z, h1, h2, h3, h4⟩ => ⟨z, h1, h2, by omega, h4⟩, fun ⟨z, h1, h2, h3, h4⟩ => ⟨z, h1, h2, by omega, h4⟩⟩
theorem ThenI.start {m : Nat} {a b : Rel} {M : Nat → Nat → Bool} {i k : Nat} (h : ThenI m a b M i k 0) : ThenI m a b M i k k := fun x y hx hy => (h x y hx hy).trans
  ⟨fun ⟨z, h1, h2, h3, h4⟩ => ⟨z, h1, h2, by omega, h4⟩, fun ⟨z, h1, h2, h3, h4⟩ => ⟨z, h1, h2, by omega, h4⟩⟩
/-- A matrix with one place set. -/
def updM (M : Nat → Nat → Bool) (i j : Nat) (b : Bool) : Nat → Nat → Bool := fun x => if x = i then upd (M i) j b else M x
theorem updM_row (M : Nat → Nat → Bool) (i j : Nat) (b : Bool) : updM M i j b i = upd (M i) j b := if_pos rfl
theorem updM_other (M : Nat → Nat → Bool) {i x : Nat} (j : Nat) (b : Bool) (h : x ≠ i) : updM M i j b x = M x := if_neg h
theorem ThenI.put {m : Nat} {a b : Rel} {M : Nat → Nat → Bool} {i k j : Nat} (h : ThenI m a b M i k j) (hi : i < m) (hik : i ≤ k) (hkj : k ≤ j) (hjm : j < m) (ha : a i k) {c : Bool} (hc : c = true ↔ b k j) : ThenI m a b (updM M i j (M i j || c)) i k (j + 1) := fun x y hx hy => by
  by_cases e : x = i
  · subst e
    rw [updM_row]
    by_cases e2 : y = j
    · subst e2
      rw [upd_same, Bool.or_eq_true, hc, h x y hx hy]
      constructor
      · rintro (⟨z, h1, h2, h3, h4⟩ | h5)
        · exact ⟨z, h1, h2, by omega, h4⟩
        · exact ⟨k, hik, hkj, by omega, ha, h5⟩
      · rintro ⟨z, h1, h2, h3, h4⟩
        by_cases e3 : z = k
        · subst e3
          exact .inr h4.2
        · exact .inl ⟨z, h1, h2, by omega, h4⟩
    · rw [upd_other _ _ e2, h x y hx hy]
      exact ⟨fun ⟨z, h1, h2, h3, h4⟩ => ⟨z, h1, h2, by omega, h4⟩, fun ⟨z, h1, h2, h3, h4⟩ => ⟨z, h1, h2, by omega, h4⟩⟩
  · rw [updM_other _ _ _ e, h x y hx hy]
    exact ⟨fun ⟨z, h1, h2, h3, h4⟩ => ⟨z, h1, h2, by omega, h4⟩, fun ⟨z, h1, h2, h3, h4⟩ => ⟨z, h1, h2, by omega, h4⟩⟩
theorem ThenI.end_ {m : Nat} {a b : Rel} {M : Nat → Nat → Bool} (ha : Fwd m a) (hb : Fwd m b) (h : ThenI m a b M m m 0) {x y : Nat} (hx : x < m) (hy : y < m) : M x y = true ↔ compR a b x y := (h x y hx hy).trans
  ⟨fun ⟨z, _, _, _, h4⟩ => ⟨z, h4⟩, fun ⟨z, h4⟩ => by
    have h1 := ha x z hx h4.1
    have h2 := hb z y h1.2 h4.2
    exact ⟨z, h1.1, h2.1, .inl hx, h4⟩⟩
/-- While as many as may be are made: rows behind i are done, of row i what goes over places from behind i ahead of k, and over k to places ahead of j. -/
def ManyI (m : Nat) (a : Rel) (M : Nat → Nat → Bool) (i : Int) (k j : Nat) : Prop :=
  ∀ x y, x < m → y < m → (M x y = true ↔ x = y ∨ ∃ z, x < z ∧ z ≤ y ∧ (i < x ∨ (x : Int) = i ∧ (z < k ∨ z = k ∧ y < j)) ∧ a x z ∧ starR a z y)
theorem ManyI.zero {m : Nat} {a : Rel} {M : Nat → Nat → Bool} (h : ∀ x y, x < m → y < m → (M x y = true ↔ x = y)) : ManyI m a M ((m : Int) - 1) 0 0 := fun x y hx hy => (h x y hx hy).trans
  ⟨.inl, fun h => h.elim id fun ⟨z, h1, h2, h3, h4⟩ => by omega⟩
theorem ManyI.first {m : Nat} {a : Rel} {M : Nat → Nat → Bool} {i : Nat} (h : ManyI m a M i 0 0) : ManyI m a M i (i + 1) 0 := fun x y hx hy => (h x y hx hy).trans
  ⟨fun h => h.imp id fun ⟨z, h1, h2, h3, h4⟩ => ⟨z, h1, h2, by omega, h4⟩, fun h => h.imp id fun ⟨z, h1, h2, h3, h4⟩ => ⟨z, h1, h2, by omega, h4⟩⟩
theorem ManyI.row {m : Nat} {a : Rel} {M : Nat → Nat → Bool} {i : Nat} (h : ManyI m a M i m 0) : ManyI m a M ((i : Int) - 1) 0 0 := fun x y hx hy => (h x y hx hy).trans
  ⟨fun h => h.imp id fun ⟨z, h1, h2, h3, h4⟩ => ⟨z, h1, h2, by omega, h4⟩, fun h => h.imp id fun ⟨z, h1, h2, h3, h4⟩ => ⟨z, h1, h2, by omega, h4⟩⟩
theorem ManyI.none_ {m : Nat} {a : Rel} {M : Nat → Nat → Bool} {i k : Nat} (h : ManyI m a M i k k) (hn : ¬ a i k) : ManyI m a M i (k + 1) 0 := fun x y hx hy => (h x y hx hy).trans
  ⟨fun h => h.imp id fun ⟨z, h1, h2, h3, h4⟩ => ⟨z, h1, h2, by omega, h4⟩, fun h => h.imp id fun ⟨z, h1, h2, h3, h4⟩ => ⟨z, h1, h2, by
    rcases h3 with h3 | ⟨h5, h3 | h3⟩
    · exact .inl h3
    · rcases Nat.lt_or_ge z k with h6 | h6
      · exact .inr ⟨h5, .inl h6⟩
      · have : z = k := by omega
        subst this
        have : x = i := by omega
        subst this
        exact absurd h4.1 hn
    · omega, h4⟩⟩
theorem ManyI.over {m : Nat} {a : Rel} {M : Nat → Nat → Bool} {i k : Nat} (h : ManyI m a M i k m) : ManyI m a M i (k + 1) 0 := fun x y hx hy => (h x y hx hy).trans
  ⟨fun h => h.imp id fun ⟨z, h1, h2, h3, h4⟩ => ⟨z, h1, h2, by omega, h4⟩, fun h => h.imp id fun ⟨z, h1, h2, h3, h4⟩ => ⟨z, h1, h2, by omega, h4⟩⟩
theorem ManyI.start {m : Nat} {a : Rel} {M : Nat → Nat → Bool} {i k : Nat} (h : ManyI m a M i k 0) : ManyI m a M i k k := fun x y hx hy => (h x y hx hy).trans
  ⟨fun h => h.imp id fun ⟨z, h1, h2, h3, h4⟩ => ⟨z, h1, h2, by omega, h4⟩, fun h => h.imp id fun ⟨z, h1, h2, h3, h4⟩ => ⟨z, h1, h2, by omega, h4⟩⟩
/-- A row behind is done. -/
theorem ManyI.done {m : Nat} {a : Rel} {M : Nat → Nat → Bool} {i k j : Nat} (ha : Fwd m a) (h : ManyI m a M i k j) {x y : Nat} (hi : i < x) (hx : x < m) (hy : y < m) : M x y = true ↔ starR a x y := by
  rw [h x y hx hy, starR.far ha hx]
  constructor
  · rintro (h1 | ⟨z, h1, h2, h3, h4⟩)
    · exact .inl h1
    · exact .inr ⟨z, h1, by omega, h4⟩
  · rintro (h1 | ⟨z, h1, h2, h4, h5⟩)
    · exact .inl h1
    · exact .inr ⟨z, h1, (ha.star z y h2 h5).1, .inl (by omega), h4, h5⟩
theorem ManyI.put {m : Nat} {a : Rel} {M : Nat → Nat → Bool} {i k j : Nat} (hF : Fwd m a) (h : ManyI m a M i k j) (hi : i < m) (hik : i < k) (hkj : k ≤ j) (hjm : j < m) (ha : a i k) : ManyI m a (updM M i j (M i j || M k j)) i k (j + 1) := fun x y hx hy => by
  by_cases e : x = i
  · subst e
    rw [updM_row]
    by_cases e2 : y = j
    · subst e2
      rw [upd_same, Bool.or_eq_true, h.done hF (x := k) hik (by omega) hy, h x y hx hy]
      constructor
      · rintro ((h0 | ⟨z, h1, h2, h3, h4⟩) | h5)
        · exact .inl h0
        · exact .inr ⟨z, h1, h2, by omega, h4⟩
        · exact .inr ⟨k, hik, hkj, by omega, ha, h5⟩
      · rintro (h0 | ⟨z, h1, h2, h3, h4⟩)
        · exact .inl (.inl h0)
        · by_cases e3 : z = k
          · subst e3
            exact .inr h4.2
          · exact .inl (.inr ⟨z, h1, h2, by omega, h4⟩)
    · rw [upd_other _ _ e2, h x y hx hy]
      exact ⟨fun h => h.imp id fun ⟨z, h1, h2, h3, h4⟩ => ⟨z, h1, h2, by omega, h4⟩, fun h => h.imp id fun ⟨z, h1, h2, h3, h4⟩ => ⟨z, h1, h2, by omega, h4⟩⟩
  · rw [updM_other _ _ _ e, h x y hx hy]
    exact ⟨fun h => h.imp id fun ⟨z, h1, h2, h3, h4⟩ => ⟨z, h1, h2, by omega, h4⟩, fun h => h.imp id fun ⟨z, h1, h2, h3, h4⟩ => ⟨z, h1, h2, by omega, h4⟩⟩
theorem ManyI.end_ {m : Nat} {a : Rel} {M : Nat → Nat → Bool} {k j : Nat} (ha : Fwd m a) (h : ManyI m a M (-1) k j) {x y : Nat} (hx : x < m) (hy : y < m) : M x y = true ↔ starR a x y := by
  rw [h x y hx hy, starR.far ha hx]
  constructor
  · rintro (h1 | ⟨z, h1, h2, h3, h4⟩)
    · exact .inl h1
    · exact .inr ⟨z, h1, by omega, h4⟩
  · rintro (h1 | ⟨z, h1, h2, h4, h5⟩)
    · exact .inl h1
    · exact .inr ⟨z, h1, (ha.star z y h2 h5).1, .inl (by omega), h4, h5⟩
/-- The ends of one are added to another's: rows ahead of i, of row i places ahead of k. -/
def AddI (m : Nat) (M0 X M : Nat → Nat → Bool) (i k : Nat) : Prop :=
  ∀ x y, x < m → y < m → M x y = (M0 x y || (decide (x ≤ y ∧ (x < i ∨ x = i ∧ y < k)) && X x y))
theorem AddI.zero (m : Nat) (M0 X : Nat → Nat → Bool) : AddI m M0 X M0 0 0 := fun x y _ _ => by rw [decide_eq_false (by omega)]; simp
theorem AddI.start {m : Nat} {M0 X M : Nat → Nat → Bool} {i : Nat} (h : AddI m M0 X M i 0) : AddI m M0 X M i i := fun x y hx hy => by
  rw [h x y hx hy]; congr 2; exact decide_eq_decide.2 (by omega)
theorem AddI.row {m : Nat} {M0 X M : Nat → Nat → Bool} {i : Nat} (h : AddI m M0 X M i m) : AddI m M0 X M (i + 1) 0 := fun x y hx hy => by
  rw [h x y hx hy]; congr 2; exact decide_eq_decide.2 (by omega)
theorem AddI.put {m : Nat} {M0 X M : Nat → Nat → Bool} {i k : Nat} (h : AddI m M0 X M i k) (hik : i ≤ k) : AddI m M0 X (updM M i k (M i k || X i k)) i (k + 1) := fun x y hx hy => by
  by_cases e : x = i
  · subst e
    rw [updM_row]
    by_cases e2 : y = k
    · subst e2
      rw [upd_same, h x y hx hy, decide_eq_false (by omega), decide_eq_true (by omega)]
      simp
    · rw [upd_other _ _ e2, h x y hx hy]
      congr 2; exact decide_eq_decide.2 (by omega)
  · rw [updM_other _ _ _ e, h x y hx hy]
    congr 2; exact decide_eq_decide.2 (by omega)
theorem AddI.end_ {m : Nat} {M0 X M : Nat → Nat → Bool} (h : AddI m M0 X M m 0) {a b : Rel} (hb : Fwd m b) (h0 : ∀ x y, x < m → y < m → (M0 x y = true ↔ a x y)) (h1 : ∀ x y, x < m → y < m → (X x y = true ↔ b x y)) {x y : Nat} (hx : x < m) (hy : y < m) : M x y = true ↔ orR a b x y := by
  rw [h x y hx hy, Bool.or_eq_true, Bool.and_eq_true, h0 x y hx hy, h1 x y hx hy, decide_eq_true_iff]
  constructor
  · rintro (h | h)
    · exact .inl h
    · exact .inr h.2
  · rintro (h | h)
    · exact .inl h
    · exact .inr ⟨⟨(hb x y hx h).1, .inl hx⟩, h⟩

/-- While what repeats is added: all of V is there, and no more than may be reached. -/
def LoopI (m : Nat) (V : Nat → Bool) (R : Rel) (V' : Nat → Bool) : Prop := (∀ j, j < m → V j = true → V' j = true) ∧ ∀ j, j < m → V' j = true → img m V (starR R) j
theorem LoopI.zero (m : Nat) (V : Nat → Bool) (R : Rel) : LoopI m V R V := ⟨fun _ _ h => h, fun j hj h => ⟨j, hj, h, .refl _⟩⟩
theorem LoopI.more {m : Nat} {V V' W : Nat → Bool} {R : Rel} (h : LoopI m V R V') (hW : ∀ j, j < m → (W j = true ↔ V' j = true ∨ img m V' R j)) : LoopI m V R W :=
  ⟨fun j hj h1 => (hW j hj).2 (.inl (h.1 j hj h1)), fun j hj h1 => by
    rcases (hW j hj).1 h1 with h2 | ⟨i, hi, h2, h3⟩
    · exact h.2 j hj h2
    · obtain ⟨x, hx, h4, h5⟩ := h.2 i hi h2
      exact ⟨x, hx, h4, h5.snoc h3⟩⟩
theorem LoopI.end_ {m : Nat} {V V' : Nat → Bool} {R : Rel} (hR : Fwd m R) (h : LoopI m V R V') (hc : ∀ j, j < m → img m V' R j → V' j = true) {j : Nat} (hj : j < m) : V' j = true ↔ img m V (starR R) j := by
  refine ⟨h.2 j hj, ?_⟩
  rintro ⟨i, hi, h1, h2⟩
  have h3 := h.1 i hi h1
  clear h1
  induction h2 with
  | refl _ => exact h3
  | @step i k j h4 _ ih =>
    have hk := (hR i k hi h4).2
    exact ih hj hk (hc k hk ⟨i, hi, h3, h4⟩)

end Go.Proofs.Ytnoekbgmhnhneaa
