/- Arguments that are slices of structs, opened: each element by a law of its own. No condition. -/
import Derived.Test.YtnoekbgmhnhneaaLift
import Derived.Test.YtnoekbgmhnhneaaFlat
import Derived.ChangeArms
import Derived.DataReads
import Derived.DataElems
import Derived.Deep.Fields
namespace Go.Proofs.Ytnoekbgmhnhneaa
open Go.ChangeShapes Go.WideShapes Go.ChangeAt Go.RowKit

theorem open_rows {H : Type} {enc : TypeId × Value → H} {P : Program} {w : World} {t e : TypeId} {v : Value} {fuel m : Nat} {x : DataW H × List MemPlace} {α : Type} {Q : α → Prop} {f : α → List Value} (hf : ∀ a, (f a).length = m) (hm0 : 0 < m)
    (ht : P.underlying t = some (.slice e)) (hc : P.cellsOf e = m) (elem : ∀ n cs y, n < fuel → cs.length = m → DataW.trod enc P w 0 (fun _ => true) true n e cs = some y → ∃ a, Q a ∧ cs = f a)
    (h : DataW.trod enc P w 0 (fun _ => true) true fuel t [v] = some x) :
    ∃ (A : Option Addr) (c : Nat) (l : List α), v = .slice A l.length c ∧ Reads w w.heap.size m A l.length (flat f l) ∧ (∀ a ∈ l, Q a) ∧ l.length ≤ 9223372036854775807 := by
  rcases DataW.trod_slice ht h with ⟨hcs, _⟩ | ⟨a, len, cap, elems, rest, n, hn, hcs, _, _, hl, hmx, hlen, hel, _, _⟩
  · simp only [List.cons.injEq, and_true] at hcs
    subst hcs
    exact ⟨none, 0, [], rfl, ⟨by simp [flat], fun h => absurd h (by simp)⟩, (fun _ h => by cases h), by simp⟩
  · simp only [List.cons.injEq, and_true] at hcs
    subst hcs
    rw [hc] at hel
    have each : ∀ k, k ≤ len → ∃ l : List α, l.length = k ∧ ∀ i (hi : i < l.length), Q l[i] ∧ ∀ c u, (f l[i])[c]? = some u → w.cell? (a.add (i * m + c)) = some u := by
      intro k
      induction k with
      | zero => intro _; exact ⟨[], rfl, fun i hi => by simp at hi⟩
      | succ k ih =>
        intro hk
        obtain ⟨l, hll, hi⟩ := ih (by omega)
        have he := hel k (by omega)
        rw [List.getElem?_eq_getElem (by omega)] at he
        obtain ⟨cs', h1, h2⟩ := Option.bind_eq_some_iff.1 he
        obtain ⟨_, hl2, hcell⟩ := World.cells?_some h1
        obtain ⟨b, hq, rfl⟩ := elem n cs' _ (by omega) hl2 h2
        refine ⟨l ++ [b], by simp [hll], fun i hi' => ?_⟩
        by_cases hik : i < l.length
        · rw [List.getElem_append_left hik]; exact hi i hik
        · have hik2 : i = l.length := by simp at hi'; omega
          subst hik2
          have e2 : (l ++ [b])[l.length]'hi' = b := by simp
          rw [e2]
          refine ⟨hq, fun c u hu => ?_⟩
          have hcm : c < m := by
            rcases Nat.lt_or_ge c (f b).length with h1 | h1
            · rw [hf] at h1; exact h1
            · rw [List.getElem?_eq_none h1] at hu; cases hu
          have := hcell c hcm
          rw [Addr.add_add] at this
          rw [hll]
          exact this.trans hu
    obtain ⟨l, hll, hi⟩ := each len (Nat.le_refl _)
    refine ⟨some a, cap, l, by rw [hll], ⟨flat_len hf l, fun hp => ?_⟩, fun b hb => ?_, by rw [hll]; unfold maxLen at hmx; omega⟩
    · have h0 : ∃ u, (f (l[0]'hp))[0]? = some u := ⟨_, List.getElem?_eq_getElem (by rw [hf]; exact hm0)⟩
      obtain ⟨u, hu⟩ := h0
      have c0 := (hi 0 hp).2 0 u hu
      have hs := World.cell?_spot c0
      obtain ⟨b, off, sp⟩ := a
      have hsp : sp = none := by simpa [Addr.add] using hs
      subst hsp
      refine ⟨b, off, rfl, (by have := World.block_lt_of_cell? w _ c0; rw [add_plain] at this; exact this), fun j u hu => ?_⟩
      have hjl : j < l.length * m := by
        rcases Nat.lt_or_ge j (flat f l).length with h1 | h1
        · rw [flat_len hf] at h1; exact h1
        · rw [List.getElem?_eq_none h1] at hu; cases hu
      have hj1 : j / m < l.length := Nat.div_lt_of_lt_mul (by rw [Nat.mul_comm]; exact hjl)
      have hj2 : j % m < m := Nat.mod_lt _ hm0
      have hj : j / m * m + j % m = j := by rw [Nat.mul_comm]; exact Nat.div_add_mod j m
      have hg := flat_get hf l (j / m) hj1 (j % m) hj2
      rw [hj] at hg
      have := (hi (j / m) hj1).2 (j % m) u (by rw [← hg]; exact hu)
      rw [hj, add_plain] at this
      exact this
    · obtain ⟨i, hi', rfl⟩ := List.getElem_of_mem hb
      exact (hi i hi').1

theorem open_cells {H : Type} {enc : TypeId × Value → H} {P : Program} {w : World} {r : Reach} {b0 : Nat} {t : TypeId} {fs : Array Field} {v : Value} {d : DataW H} {ps : List MemPlace} (hs : P.underlying t = some (.struct fs)) (hv : Value.okWide P w r b0 t v) (h : DataW.Trod enc P w 0 (fun _ => true) true t v d ps) :
    ∃ (cs : Array Value) (fuel : Nat), v = .agg cs ∧ DataW.trod enc P w 0 (fun _ => true) true fuel t cs.toList = some (d, ps) := by
  obtain ⟨cs, rfl, _⟩ := okWide_struct hs hv
  obtain ⟨fuel, hf⟩ := h
  exact ⟨cs, fuel, rfl, hf⟩
/-- A struct's cells, each a field of one cell, read by its own type. -/
theorem trod_fields {H : Type} {enc : TypeId × Value → H} {P : Program} {w : World} {t : TypeId} {fuel : Nat} {cs : List Value} {x : DataW H × List MemPlace} {fs : Array Field} (hs : P.underlying t = some (.struct fs)) (hone : Go.Deep.oneCellFields P fs = true) (h : DataW.trod enc P w 0 (fun _ => true) true fuel t cs = some x) :
    ∃ n : Nat, fuel = n + 1 ∧ cs.length = P.cellsOf t ∧ ∀ (i : Nat) (f : Field), fs[i]? = some f → ∀ c, cs[i]? = some c → ∃ y, DataW.trod enc P w 0 (fun _ => true) true n f.type [c] = some y := by
  obtain ⟨xs, n, hn, _, hcl, hxl, hf⟩ := DataW.trod_struct hs h
  refine ⟨n, hn, hcl, fun i f hi c hc => ?_⟩
  have h1 := hf i f hi
  obtain ⟨o0, k0⟩ := Go.Deep.hone_of hone i f hi
  have hil : i < fs.size := (Array.getElem?_eq_some_iff.1 hi).1
  have hcl2 : i < cs.length := by
    rcases Nat.lt_or_ge i cs.length with h | h
    · exact h
    · rw [List.getElem?_eq_none h] at hc; cases hc
  rw [List.getElem?_eq_getElem hcl2] at hc
  injection hc with hc
  have e1 : (cs.drop i).take 1 = [c] := by
    rw [List.drop_eq_getElem_cons hcl2, hc]
    rfl
  rw [o0, k0, e1, List.getElem?_eq_getElem (by omega)] at h1
  exact ⟨_, h1⟩

end Go.Proofs.Ytnoekbgmhnhneaa
