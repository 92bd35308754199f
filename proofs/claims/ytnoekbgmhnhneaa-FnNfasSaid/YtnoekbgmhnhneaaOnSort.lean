/- A row of the call's own, sorted and made compact by the library. No code of the program but the library's. -/
import Derived.Test.YtnoekbgmhnhneaaOnP
import Derived.Test.YtnoekbgmhnhneaaShelfS
import Derived.Sort.OwnSortedInts
import Derived.Shelf.Slices.In.SortNone
import Derived.Lib.RowBridge
namespace Go.Proofs.Ytnoekbgmhnhneaa
open Go.RowKit Go.Lib Go.Sort

theorem putRow_grow0 (w : World) : grow w #[] = w := by simp [grow]
/-- The sorted row. -/
def srtZ (l : List Int) : List Int := l.mergeSort fun x y => decide (x ≤ y)
theorem srtZ_len (l : List Int) : (srtZ l).length = l.length := by simp [srtZ]
theorem srtZ_mem (l : List Int) (x : Int) : x ∈ srtZ l ↔ x ∈ l := by simp [srtZ]
theorem srtZ_le (l : List Int) : (srtZ l).Pairwise (· ≤ ·) := by
  have h := List.pairwise_mergeSort (le := fun (x y : Int) => decide (x ≤ y)) (fun a b c h1 h2 => by simp only [decide_eq_true_eq] at *; omega) (fun a b => by simp only [Bool.or_eq_true, decide_eq_true_eq]; omega) l
  exact h.imp fun h => by simpa using h
theorem cpt_aux (d : Array Int) (hs : ∀ i j, i ≤ j → j < d.size → d[i]! ≤ d[j]!) (m : Nat) (hm : m ≤ d.size) : Ris (compactUpTo d m) ∧ ∀ x, x ∈ compactUpTo d m ↔ ∃ j, j < m ∧ d[j]! = x := by
  induction m with
  | zero => exact ⟨by simp [compactUpTo, Ris], fun x => by simp [compactUpTo]⟩
  | succ m ih =>
    obtain ⟨h1, h2⟩ := ih (by omega)
    rw [compactUpTo_succ]
    by_cases hk : keeps d m = true
    · rw [if_pos hk]
      unfold keeps at hk
      rw [decide_eq_true_eq] at hk
      refine ⟨List.pairwise_append.2 ⟨h1, List.pairwise_singleton .., fun a ha b hb => ?_⟩, fun x => ?_⟩
      · obtain rfl := List.mem_singleton.1 hb
        obtain ⟨j, hj, rfl⟩ := (h2 a).1 ha
        have e1 := hs j (m - 1) (by omega) (by omega)
        have e2 := hs (m - 1) m (by omega) (by omega)
        rcases hk with hk | hk
        · omega
        · omega
      · rw [List.mem_append, List.mem_singleton, h2]
        constructor
        · rintro (⟨j, hj, rfl⟩ | rfl)
          · exact ⟨j, by omega, rfl⟩
          · exact ⟨m, by omega, rfl⟩
        · rintro ⟨j, hj, rfl⟩
          by_cases e : j = m
          · subst e; exact .inr rfl
          · exact .inl ⟨j, by omega, rfl⟩
    · rw [if_neg hk, List.append_nil]
      unfold keeps at hk
      rw [decide_eq_true_eq] at hk
      refine ⟨h1, fun x => ?_⟩
      rw [h2]
      constructor
      · rintro ⟨j, hj, rfl⟩
        exact ⟨j, by omega, rfl⟩
      · rintro ⟨j, hj, rfl⟩
        by_cases e : j = m
        · subst e
          exact ⟨j - 1, by omega, by
            by_cases e2 : d[j]! = d[j - 1]!
            · exact e2.symm
            · exact absurd (Or.inr e2) hk⟩
        · exact ⟨j, by omega, rfl⟩
theorem cpt_srt (l : List Int) : Ris (Lib.compact (srtZ l)) ∧ ∀ x, x ∈ Lib.compact (srtZ l) ↔ x ∈ l := by
  have hs : ∀ i j, i ≤ j → j < (srtZ l).toArray.size → (srtZ l).toArray[i]! ≤ (srtZ l).toArray[j]! := fun i j hij hj => by
    have hj' : j < (srtZ l).length := by simpa using hj
    rw [getElem!_pos _ i (by omega), getElem!_pos _ j hj]
    simp only [List.getElem_toArray]
    by_cases e : i = j
    · subst e; exact Int.le_refl _
    · exact List.pairwise_iff_getElem.1 (srtZ_le l) i j (by omega) hj' (by omega)
  obtain ⟨h1, h2⟩ := cpt_aux (srtZ l).toArray hs (srtZ l).length (by simp)
  refine ⟨h1, fun x => (h2 x).trans ?_⟩
  rw [← srtZ_mem l x]
  constructor
  · rintro ⟨j, hj, rfl⟩
    rw [getElem!_pos _ j (by simpa using hj)]
    simp only [List.getElem_toArray]
    exact List.getElem_mem _
  · intro hx
    obtain ⟨j, hj, rfl⟩ := List.getElem_of_mem hx
    exact ⟨j, hj, by rw [getElem!_pos _ j (by simpa using hj)]; simp⟩
theorem cpt_onR {zs : List (Int × ByteArray × Int × Int)} {c : Int} {l : List Int} : OnR zs c l (Lib.compact (srtZ (onW zs c l))) := by
  obtain ⟨h1, h2⟩ := cpt_srt (onW zs c l)
  refine ⟨h1, h2, ?_⟩
  have h3 := Lib.compact_length_le (srtZ (onW zs c l))
  rw [srtZ_len] at h3
  exact Nat.le_trans h3 (onW_len zs c l)
/-- The first places of a row. -/
theorem own_short {w : World} {base : Nat} {e : TypeId} {A : Option Addr} {n m c : Nat} {xs ys : List Value} (h : w.ownsRow base e 1 (.slice A n c) n xs) (hm : ys.length = m) (hx : xs.take m = ys) (hle : m ≤ n) (h0 : A = none → c = 0) : w.ownsRow base e 1 (.slice A m c) m ys := by
  refine ⟨by rw [hm, Nat.mul_one], ?_⟩
  rcases h.2 with ⟨hv, hx'⟩ | ⟨g, cap, cur, hv, hg, hb, h1, h2, h3, h4⟩
  · injection hv with hA hn hc
    subst hA hn hc
    have hm0 : m = 0 := Nat.le_zero.1 hle
    exact .inl ⟨by rw [hm0], hm0⟩
  · injection hv with hA hn hc
    subst hA hc
    refine .inr ⟨g, c, cur, rfl, hg, hb, by omega, h2, h3, ?_⟩
    rw [Nat.mul_one] at h4 ⊢
    rw [← hx, ← h4, List.take_take, Nat.min_eq_left hle]
theorem sortZ {w : World} {base : Nat} {v : Value} {l : List Int} (hO : Row w base w.heap.size 3 1 v l.length (zints l)) (hl : l.length ≤ 1048576) :
    Calls Try.prog 61 #[v] w fun e w' => e = .returned (.tuple #[]) ∧ Row w' base w'.heap.size 3 1 v l.length (zints (srtZ l)) ∧ w.grownBy w' v.ownBlock := by
  obtain ⟨hO, hB⟩ := hO
  rcases hO.2 with ⟨hv, hx'⟩ | ⟨g, cap, cur, hv, hg, hb, h1, h2, h3, h4⟩
  · subst hv
    have h0 : l = [] := by
      cases l with
      | nil => rfl
      | cons x l => exact absurd hx' (by simp)
    subst h0
    refine (Any.slices_Sort_int_none Try.lays189 none 0 w).mono ?_
    rintro e w' ⟨rfl, rfl⟩
    exact ⟨rfl, Row.mk (by rw [show srtZ [] = [] from List.eq_nil_of_length_eq_zero (srtZ_len [])]; exact hO), ⟨rfl, rfl, rfl, Nat.le_refl _, fun _ _ _ => rfl⟩⟩
  · subst hv
    have hH := holds_of_blockI hb (by rw [Nat.mul_one] at h4; exact h4)
    have hgw : g < w.heap.size := (Array.getElem?_eq_some_iff.1 hb).1
    refine (Try.slices_Sort_int g 0 cap l w hH hgw (by omega)).mono ?_
    rintro e w' ⟨rfl, n, os, rfl⟩
    have hR := ownsRow_sortedI (n := n) (os := os) (ts := srtZ l) (ss := l) (srtZ_len l) hg hb h1 h2 h3
    exact ⟨rfl, Row.mk hR, grownBy_sortedI _⟩
theorem compactZ {w : World} {base : Nat} {v : Value} {l : List Int} (hO : Row w base w.heap.size 3 1 v l.length (zints l)) (hl : l.length ≤ 1048576) :
    Calls Try.prog 62 #[v] w fun e w' => ∃ v', e = .returned v' ∧ Row w' base w'.heap.size 3 1 v' (Lib.compact l).length (zints (Lib.compact l)) ∧ w.grownBy w' v.ownBlock := by
  obtain ⟨hO, hB⟩ := hO
  have hle := Lib.compact_length_le l
  rcases hO.2 with ⟨hv, hx'⟩ | ⟨g, cap, cur, hv, hg, hb, h1, h2, h3, h4⟩
  · have h0 : l = [] := by
      cases l with
      | nil => rfl
      | cons x l => exact absurd hx' (by simp)
    subst h0
    subst hv
    refine (Try.slices_Compact_int_empty none 0 w).mono ?_
    rintro e w' ⟨rfl, rfl⟩
    exact ⟨_, rfl, Row.mk hO, ⟨rfl, rfl, rfl, Nat.le_refl _, fun _ _ _ => rfl⟩⟩
  · subst hv
    have hH := holds_of_blockI hb (by rw [Nat.mul_one] at h4; exact h4)
    refine (Try.slices_Compact_int g 0 cap l w hH (by omega) h1).mono ?_
    rintro e w' ⟨rfl, q, rfl⟩
    rw [← putRow_grow0 (putRow _ _ _ _ _)]
    have hR := ownsRow_sortedI (n := q) (os := #[]) (ts := Lib.compact l ++ List.replicate (l.length - (Lib.compact l).length) 0) (ss := l) (by simp; omega) hg hb h1 h2 h3
    exact ⟨_, rfl, Row.mk (own_short hR (zints_len _) (by simp [zints]) hle (fun h => by cases h)), grownBy_sortedI _⟩

end Go.Proofs.Ytnoekbgmhnhneaa
