/- One round of the reference's Spread, step by step. No program in sight. -/
import Derived.Test.YtnoekbgmhnhneaaSpP
namespace Go.Proofs.Ytnoekbgmhnhneaa
open Go.RowKit

/-- Behind k places of a round. -/
def SpK (zs : List (Int × ByteArray × Int × Int)) (a s : Int) (R : List Int) (k : Nat) (S : List Int) : Prop := Ris S ∧ (∀ x, x ∈ S ↔ x ∈ R ∨ ∃ j, j ∈ R.take k ∧ x ∈ nxt zs a s j) ∧ S.length ≤ R.length + 2 * k
theorem SpK.zero {zs : List (Int × ByteArray × Int × Int)} {a s : Int} {R : List Int} (h : Ris R) : SpK zs a s R 0 R := ⟨h, fun x => by simp, by omega⟩
theorem SpK.all {zs : List (Int × ByteArray × Int × Int)} {a s : Int} {R S : List Int} (h : SpK zs a s R R.length S) : SpN zs a s R S := ⟨h.1, fun x => by rw [h.2.1, List.take_length]⟩
theorem mem_next {zs : List (Int × ByteArray × Int × Int)} {a s : Int} {R : List Int} {k : Nat} (hk : k < R.length) (x : Int) : (∃ j, j ∈ R.take (k + 1) ∧ x ∈ nxt zs a s j) ↔ (∃ j, j ∈ R.take k ∧ x ∈ nxt zs a s j) ∨ x ∈ nxt zs a s R[k] := by
  rw [List.take_succ_eq_append_getElem hk]
  constructor
  · rintro ⟨j, hj, hx⟩
    rcases List.mem_append.1 hj with hj | hj
    · exact .inl ⟨j, hj, hx⟩
    · obtain rfl := List.mem_singleton.1 hj
      exact .inr hx
  · rintro (⟨j, hj, hx⟩ | hx)
    · exact ⟨j, List.mem_append_left _ hj, hx⟩
    · exact ⟨_, List.mem_append_right _ (List.mem_singleton.2 rfl), hx⟩
theorem SpK.none {zs : List (Int × ByteArray × Int × Int)} {a s : Int} {R S : List Int} {k : Nat} (h : SpK zs a s R k S) (hk : k < R.length) (hn : nxt zs a s R[k] = []) : SpK zs a s R (k + 1) S :=
  ⟨h.1, fun x => by rw [h.2.1, mem_next hk, hn]; simp, by have := h.2.2; omega⟩
theorem SpK.one {zs : List (Int × ByteArray × Int × Int)} {a s : Int} {R S T : List Int} {k : Nat} {n : Int} (h : SpK zs a s R k S) (hk : k < R.length) (hn : nxt zs a s R[k] = [n]) (hp : PutZ S n T) : SpK zs a s R (k + 1) T :=
  ⟨hp.1, fun x => by rw [hp.2.1, h.2.1, mem_next hk, hn, List.mem_singleton, or_assoc], by have := h.2.2; have := hp.2.2; omega⟩
theorem SpK.two {zs : List (Int × ByteArray × Int × Int)} {a s : Int} {R S T U : List Int} {k : Nat} {n m : Int} (h : SpK zs a s R k S) (hk : k < R.length) (hn : nxt zs a s R[k] = [n, m]) (hp : PutZ S n T) (hq : PutZ T m U) : SpK zs a s R (k + 1) U :=
  ⟨hq.1, fun x => by rw [hq.2.1, hp.2.1, h.2.1, mem_next hk, hn, List.mem_cons, List.mem_singleton, or_assoc, or_assoc], by have := h.2.2; have := hp.2.2; have := hq.2.2; omega⟩
theorem nxt_two {zs : List (Int × ByteArray × Int × Int)} {a s k : Int} (h : (ndAt zs k).1 = 4) : nxt zs a s k = [(ndAt zs k).2.2.1, (ndAt zs k).2.2.2] := by
  unfold nxt
  rw [if_pos h]
theorem nxt_one {zs : List (Int × ByteArray × Int × Int)} {a s k : Int} (h : (ndAt zs k).1 ≠ 4) (h2 : ((ndAt zs k).1 = 5 ∧ a = 0) ∨ ((ndAt zs k).1 = 6 ∧ a = s)) : nxt zs a s k = [(ndAt zs k).2.2.1] := by
  unfold nxt
  rw [if_neg h, if_pos h2]
theorem nxt_none {zs : List (Int × ByteArray × Int × Int)} {a s k : Int} (h : (ndAt zs k).1 ≠ 4) (h2 : ¬ (((ndAt zs k).1 = 5 ∧ a = 0) ∨ ((ndAt zs k).1 = 6 ∧ a = s))) : nxt zs a s k = [] := by
  unfold nxt
  rw [if_neg h, if_neg h2]
/-- A rising row of places below n has at most n. -/
theorem ris_bound {R : List Int} {n : Nat} (h : Ris R) (hb : ∀ x, x ∈ R → 0 ≤ x ∧ x < n) : R.length ≤ n := by
  have hs : Ris ((List.range n).map Int.ofNat) := by
    exact List.pairwise_map.2 (List.pairwise_lt_range.imp fun h => Int.ofNat_lt.2 h)
  have := (ris_sub h hs fun x hx => List.mem_map.2 ⟨x.toNat, List.mem_range.2 (by have := hb x hx; omega), Int.toNat_of_nonneg (hb x hx).1⟩).1
  simpa using this

end Go.Proofs.Ytnoekbgmhnhneaa
