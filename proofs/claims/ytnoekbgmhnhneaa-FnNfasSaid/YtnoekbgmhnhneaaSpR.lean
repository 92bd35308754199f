/- What a right machine reaches are its places; the reference's first loop. No program in sight. -/
import Derived.Test.YtnoekbgmhnhneaaSpK
import Derived.Test.YtnoekbgmhnhneaaNfaP
namespace Go.Proofs.Ytnoekbgmhnhneaa
open Go.RowKit

theorem nd_nxt {n a s k : Int} {zs : List (Int × ByteArray × Int × Int)} (h : nodeB n (ndAt zs k) = true) {j : Int} (hj : j ∈ nxt zs a s k) : inI j 0 (n - 1) = true := by
  unfold nxt at hj
  generalize ndAt zs k = x at h hj
  obtain ⟨xk, xs, xa, xb⟩ := x
  simp only at hj
  by_cases k4 : xk = 4
  · subst k4
    rw [nd_split, Bool.and_eq_true, Bool.and_eq_true] at h
    rw [if_pos rfl] at hj
    rcases List.mem_cons.1 hj with rfl | hj
    · exact h.1
    · obtain rfl := List.mem_singleton.1 hj
      exact h.2.1
  · rw [if_neg k4] at hj
    by_cases k5 : (xk = 5 ∧ a = 0) ∨ (xk = 6 ∧ a = s)
    · rw [if_pos k5] at hj
      obtain rfl := List.mem_singleton.1 hj
      rw [nd_leaf (k5.elim (fun h => .inr (.inl h.1)) (fun h => .inr (.inr h.1))), Bool.and_eq_true] at h
      exact h.1
    · rw [if_neg k5] at hj
      cases hj
theorem rch_in {zs : List (Int × ByteArray × Int × Int)} {a s : Int} {l : List Int} (h : nfaB zs = true) {x : Int} (hx : Rch zs a s l x) : 0 ≤ x ∧ x < zs.length := by
  unfold nfaB at h
  rw [Bool.and_eq_true] at h
  have hall := List.all_eq_true.1 h.1
  induction hx with
  | base _ h2 =>
    have := inI_iff.1 h2
    omega
  | @step k _ _ hn ih =>
    have hk : k.toNat < zs.length := by omega
    have hz : ndAt zs k ∈ zs := by rw [← ndAt_get hk]; exact List.getElem_mem _
    have := inI_iff.1 (nd_nxt (hall _ hz) hn)
    omega
theorem spI_bound {zs : List (Int × ByteArray × Int × Int)} {a s : Int} {l S : List Int} (h : nfaB zs = true) (hS : SpI zs a s l S) : S.length ≤ zs.length := ris_bound hS.1 fun x hx => rch_in h (hS.2.1 x hx)
/-- Behind k places of the row. -/
def SpF (zs : List (Int × ByteArray × Int × Int)) (l : List Int) (k : Nat) (S : List Int) : Prop := Ris S ∧ ∀ x, x ∈ S ↔ x ∈ l.take k ∧ inI x 0 ((zs.length : Int) - 1) = true
theorem SpF.zero (zs : List (Int × ByteArray × Int × Int)) (l : List Int) : SpF zs l 0 [] := ⟨List.Pairwise.nil, fun x => by simp⟩
theorem SpF.skip {zs : List (Int × ByteArray × Int × Int)} {l S : List Int} {k : Nat} (h : SpF zs l k S) (hk : k < l.length) (hn : inI l[k] 0 ((zs.length : Int) - 1) = false) : SpF zs l (k + 1) S := by
  refine ⟨h.1, fun x => ?_⟩
  rw [h.2, List.take_succ_eq_append_getElem hk, List.mem_append, List.mem_singleton]
  constructor
  · rintro ⟨h1, h2⟩
    exact ⟨.inl h1, h2⟩
  · rintro ⟨h1 | rfl, h2⟩
    · exact ⟨h1, h2⟩
    · rw [hn] at h2
      cases h2
theorem SpF.put {zs : List (Int × ByteArray × Int × Int)} {l S T : List Int} {k : Nat} (h : SpF zs l k S) (hk : k < l.length) (hn : inI l[k] 0 ((zs.length : Int) - 1) = true) (hp : PutZ S l[k] T) : SpF zs l (k + 1) T := by
  refine ⟨hp.1, fun x => ?_⟩
  rw [hp.2.1, h.2, List.take_succ_eq_append_getElem hk, List.mem_append, List.mem_singleton]
  constructor
  · rintro (⟨h1, h2⟩ | rfl)
    · exact ⟨.inl h1, h2⟩
    · exact ⟨.inr rfl, hn⟩
  · rintro ⟨h1 | rfl, h2⟩
    · exact .inl ⟨h1, h2⟩
    · exact .inr rfl
theorem SpF.bound {zs : List (Int × ByteArray × Int × Int)} {l S : List Int} {k : Nat} (h : SpF zs l k S) : S.length ≤ zs.length := ris_bound h.1 fun x hx => by
  have := inI_iff.1 ((h.2 x).1 hx).2
  omega
theorem SpF.all {zs : List (Int × ByteArray × Int × Int)} {l S : List Int} (a s : Int) (h : SpF zs l l.length S) : SpI zs a s l S := by
  refine ⟨h.1, fun x hx => ?_, fun x hx hi => (h.2 x).2 ⟨by rw [List.take_length]; exact hx, hi⟩⟩
  have := (h.2 x).1 hx
  rw [List.take_length] at this
  exact .base this.1 this.2

end Go.Proofs.Ytnoekbgmhnhneaa
