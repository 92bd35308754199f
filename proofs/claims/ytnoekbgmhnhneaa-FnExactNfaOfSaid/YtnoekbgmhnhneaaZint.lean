/- Rows of numbers: what stands in them, and putting a number into a rising row. No program in sight but the world's rows. -/
import Derived.Test.YtnoekbgmhnhneaaFlat
import Derived.Test.YtnoekbgmhnhneaaStrB
namespace Go.Proofs.Ytnoekbgmhnhneaa
open Go.RowKit

/-- The cells of numbers. -/
def zints (l : List Int) : List Value := l.map (Value.int .i64)
theorem zints_len (l : List Int) : (zints l).length = l.length := by simp [zints]
theorem zints_get (l : List Int) {k : Nat} (hk : k < l.length) : (zints l)[k]? = some (.int .i64 l[k]) := by
  unfold zints
  rw [List.getElem?_map, List.getElem?_eq_getElem hk]
  rfl
theorem zints_snoc (l : List Int) (n : Int) : zints l ++ [.int .i64 n] = zints (l ++ [n]) := by simp [zints]
theorem zints_set (l : List Int) (k : Nat) (n : Int) : (zints l).set k (.int .i64 n) = zints (l.set k n) := by unfold zints; rw [List.map_set]
theorem zints_mem (l : List Int) : ∀ u ∈ zints l, u.oneCell' = true := by
  intro u hu
  obtain ⟨x, _, rfl⟩ := List.mem_map.1 hu
  rfl
theorem info_intz : (Try.prog.info? 3).map (fun i => (i.zero, i.size, i.bytes)) = some (some (.int .i64 0), 1, 8) := by kernel_rfl
/-- It hands back a new row of numbers of which R holds. -/
def RetZ (R : List Int → Prop) (w : World) (e : Ending) (w' : World) : Prop := ∃ (v : Value) (l : List Int), e = .returned v ∧ R l ∧ Row w' w.heap.size w'.heap.size 3 1 v l.length (zints l)
/-- A row rises. -/
def Ris (l : List Int) : Prop := l.Pairwise (· < ·)
theorem ris_get {l : List Int} (h : Ris l) {i j : Nat} (hij : i < j) (hj : j < l.length) : l[i]'(by omega) < l[j] := List.pairwise_iff_getElem.1 h i j (by omega) hj hij
/-- Two rising rows of the same numbers are the same. -/
theorem ris_same : ∀ {l m : List Int}, Ris l → Ris m → (∀ x, x ∈ l ↔ x ∈ m) → l = m
  | [], [], _, _, _ => rfl
  | [], y :: m, _, _, h => absurd ((h y).2 (List.mem_cons_self ..)) (by simp)
  | x :: l, [], _, _, h => absurd ((h x).1 (List.mem_cons_self ..)) (by simp)
  | x :: l, y :: m, hl, hm, h => by
    obtain ⟨h1, h2⟩ := List.pairwise_cons.1 hl
    obtain ⟨g1, g2⟩ := List.pairwise_cons.1 hm
    have exy : x = y := by
      rcases List.mem_cons.1 ((h x).1 (List.mem_cons_self ..)) with e | e
      · exact e
      · rcases List.mem_cons.1 ((h y).2 (List.mem_cons_self ..)) with e' | e'
        · exact e'.symm
        · have := g1 x e; have := h1 y e'; omega
    subst exy
    refine congrArg (x :: ·) (ris_same h2 g2 fun z => ⟨fun hz => ?_, fun hz => ?_⟩)
    · rcases List.mem_cons.1 ((h z).1 (List.mem_cons_of_mem _ hz)) with e | e
      · subst e; have := h1 z hz; omega
      · exact e
    · rcases List.mem_cons.1 ((h z).2 (List.mem_cons_of_mem _ hz)) with e | e
      · subst e; have := g1 z hz; omega
      · exact e
/-- A row with a number put in. -/
def PutZ (l : List Int) (n : Int) (m : List Int) : Prop := Ris m ∧ (∀ x, x ∈ m ↔ (x ∈ l ∨ x = n)) ∧ m.length ≤ l.length + 1
theorem PutZ.old {l : List Int} {n : Int} (h : Ris l) (hn : n ∈ l) : PutZ l n l := ⟨h, fun x => ⟨.inl, fun hx => hx.elim id (fun e => e ▸ hn)⟩, by omega⟩
theorem PutZ.ins {l : List Int} {n : Int} {i : Nat} (h : Ris l) (hi : i ≤ l.length) (hr : ∀ j (hj : j < l.length), i ≤ j → n < l[j]) (hl : ∀ hp : 0 < i, l[i - 1]'(by omega) < n) : PutZ l n (l.take i ++ n :: l.drop i) := by
  have e0 : l.take i ++ l.drop i = l := List.take_append_drop i l
  have hd : ∀ x ∈ l.drop i, n < x := fun x hx => by
    obtain ⟨j, hj, rfl⟩ := List.getElem_of_mem hx
    rw [List.getElem_drop]
    exact hr (i + j) (by rw [List.length_drop] at hj; omega) (by omega)
  have ht : ∀ x ∈ l.take i, x < n := fun x hx => by
    obtain ⟨j, hj, rfl⟩ := List.getElem_of_mem hx
    rw [List.length_take] at hj
    rw [List.getElem_take]
    have h0 := hl (by omega)
    rcases Nat.lt_or_ge j (i - 1) with h1 | h1
    · have := ris_get h h1 (by omega)
      omega
    · have : j = i - 1 := by omega
      subst this
      exact h0
  have hp : Ris (l.take i ++ l.drop i) := by rw [e0]; exact h
  obtain ⟨p1, p2, p3⟩ := List.pairwise_append.1 hp
  refine ⟨List.pairwise_append.2 ⟨p1, List.pairwise_cons.2 ⟨hd, p2⟩, fun a ha b hb => ?_⟩, fun x => ?_, ?_⟩
  · rcases List.mem_cons.1 hb with rfl | hb
    · exact ht a ha
    · exact p3 a ha b hb
  · conv => rhs; rw [← e0]
    simp only [List.mem_append, List.mem_cons]
    constructor
    · rintro (h | h | h)
      · exact .inl (.inl h)
      · exact .inr h
      · exact .inl (.inr h)
    · rintro ((h | h) | h)
      · exact .inl h
      · exact .inr (.inr h)
      · exact .inr (.inl h)
  · have := congrArg List.length e0
    simp only [List.length_append, List.length_cons] at this ⊢
    omega
/-- While places are moved up: those above k are moved. -/
def shZ (l : List Int) (k : Nat) : List Int := (l ++ [0]).take (k + 1) ++ l.drop k
theorem shZ_len {l : List Int} {k : Nat} (hk : k ≤ l.length) : (shZ l k).length = l.length + 1 := by unfold shZ; simp; omega
theorem shZ_top (l : List Int) : shZ l l.length = l ++ [0] := by
  unfold shZ
  rw [List.take_of_length_le (by simp), List.drop_eq_nil_of_le (Nat.le_refl _), List.append_nil]
theorem shZ_get {l : List Int} {k j : Nat} (hj : j < k) (hk : k ≤ l.length) : (shZ l k)[j]? = some (l[j]'(by omega)) := by
  unfold shZ
  rw [List.getElem?_append_left (by simp; omega), List.getElem?_take, if_pos (by omega), List.getElem?_append_left (by omega), List.getElem?_eq_getElem (by omega)]
theorem shZ_step {l : List Int} {k : Nat} (hk0 : 0 < k) (hk : k ≤ l.length) : (shZ l k).set k (l[k - 1]'(by omega)) = shZ l (k - 1) := by
  apply List.ext_getElem?
  intro j
  rw [List.getElem?_set]
  have h1 : ((l ++ [0]).take (k + 1)).length = k + 1 := by first | (simp; done) | (simp; omega)
  have h2 : ((l ++ [0]).take (k - 1 + 1)).length = k := by first | (simp; done) | (simp; omega)
  by_cases hj : k = j
  · subst hj
    rw [if_pos rfl, if_pos (by rw [shZ_len hk]; omega)]
    unfold shZ
    rw [List.getElem?_append_right (by rw [h2]; exact Nat.le_refl _), h2, Nat.sub_self, List.getElem?_drop, Nat.add_zero, List.getElem?_eq_getElem (by omega)]
  · rw [if_neg hj]
    unfold shZ
    rcases Nat.lt_or_ge j k with h | h
    · rw [List.getElem?_append_left (by rw [h1]; omega), List.getElem?_append_left (by rw [h2]; exact h), List.getElem?_take, List.getElem?_take, if_pos (by omega), if_pos (by omega)]
    · rw [List.getElem?_append_right (by rw [h1]; omega), List.getElem?_append_right (by rw [h2]; omega), h1, h2, List.getElem?_drop, List.getElem?_drop]
      congr 1
      omega
theorem shZ_end {l : List Int} {i : Nat} (n : Int) (hi : i ≤ l.length) : (shZ l i).set i n = l.take i ++ n :: l.drop i := by
  apply List.ext_getElem?
  intro j
  rw [List.getElem?_set]
  have h1 : ((l ++ [0]).take (i + 1)).length = i + 1 := by first | (simp; done) | (simp; omega)
  have h2 : (l.take i).length = i := by rw [List.length_take]; omega
  by_cases hj : i = j
  · subst hj
    rw [if_pos rfl, if_pos (by rw [shZ_len hi]; omega), List.getElem?_append_right (by rw [h2]; exact Nat.le_refl _), h2, Nat.sub_self, List.getElem?_cons_zero]
  · rw [if_neg hj]
    unfold shZ
    rcases Nat.lt_or_ge j i with h | h
    · rw [List.getElem?_append_left (by rw [h1]; omega), List.getElem?_append_left (by rw [h2]; exact h), List.getElem?_take, List.getElem?_take, if_pos (by omega), if_pos h, List.getElem?_append_left (by omega)]
    · rw [List.getElem?_append_right (by rw [h1]; omega), List.getElem?_append_right (by rw [h2]; omega), h1, h2]
      obtain ⟨q, hq⟩ : ∃ q, j - i = q + 1 := ⟨j - i - 1, by omega⟩
      rw [hq, List.getElem?_cons_succ, List.getElem?_drop, List.getElem?_drop]
      congr 1
      omega

end Go.Proofs.Ytnoekbgmhnhneaa
