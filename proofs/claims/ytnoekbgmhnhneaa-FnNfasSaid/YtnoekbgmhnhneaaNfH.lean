/- What a right machine reaches round by round is what runs come to. No program in sight. -/
import Derived.Test.YtnoekbgmhnhneaaNfG
namespace Go.Proofs.Ytnoekbgmhnhneaa
open Go.RowKit

section
variable {zs : List (Int × ByteArray × Int × Int)} {t : ByteArray}
theorem put_len (n : Int) : ∀ l : List Int, (l.filter (fun x => decide (x < n))).length + (l.filter (fun x => decide (n < x))).length ≤ l.length
  | [] => Nat.le_refl _
  | x :: l => by
    have := put_len n l
    rw [List.filter_cons, List.filter_cons]
    by_cases h1 : x < n
    · have h2 : ¬ n < x := by omega
      simp [h1, h2]
      omega
    · by_cases h2 : n < x
      · simp [h1, h2]
        omega
      · simp [h1, h2]
        omega
theorem put_ex {l : List Int} (h : Ris l) (n : Int) : ∃ m, PutZ l n m := by
  refine ⟨l.filter (fun x => decide (x < n)) ++ n :: l.filter (fun x => decide (n < x)), ?_, fun x => ?_, ?_⟩
  · refine List.pairwise_append.2 ⟨List.Pairwise.filter _ h, List.pairwise_cons.2 ⟨fun x hx => ?_, List.Pairwise.filter _ h⟩, fun a ha b hb => ?_⟩
    · simpa using (List.mem_filter.1 hx).2
    · have h1 : a < n := by simpa using (List.mem_filter.1 ha).2
      rcases List.mem_cons.1 hb with rfl | hb
      · exact h1
      · have h2 : n < b := by simpa using (List.mem_filter.1 hb).2
        omega
  · rw [List.mem_append, List.mem_cons, List.mem_filter, List.mem_filter]
    simp only [decide_eq_true_eq]
    constructor
    · rintro (⟨h, _⟩ | rfl | ⟨h, _⟩)
      · exact .inl h
      · exact .inr rfl
      · exact .inl h
    · rintro (h | rfl)
      · by_cases h1 : x < n
        · exact .inl ⟨h, h1⟩
        · by_cases h2 : n < x
          · exact .inr (.inr ⟨h, h2⟩)
          · exact .inr (.inl (by omega))
      · exact .inr (.inl rfl)
  · have := put_len n l
    rw [List.length_append, List.length_cons]
    omega
theorem on_ex (zs : List (Int × ByteArray × Int × Int)) (c : Int) (l : List Int) : ∃ R, OnR zs c l R := by
  have : ∀ k, k ≤ l.length → ∃ R, OnR zs c (l.take k) R := fun k => by
    induction k with
    | zero => exact fun _ => ⟨[], OnR.zero zs c l⟩
    | succ k ih =>
      intro hk
      obtain ⟨R, hR⟩ := ih (by omega)
      cases hf : onF zs c l[k] with
      | none => exact ⟨R, hR.skip (by omega) hf⟩
      | some n =>
        obtain ⟨m, hm⟩ := put_ex hR.1 n
        exact ⟨m, hR.put (by omega) hf hm⟩
  obtain ⟨R, hR⟩ := this l.length (Nat.le_refl _)
  rw [List.take_length] at hR
  exact ⟨R, hR⟩
theorem spr_ex (hB : nfaB zs = true) (a s : Int) (l : List Int) : ∃ R, SprO zs a s l R := by
  refine ⟨((List.range zs.length).filter fun (q : Nat) => bof (Rch zs a s l (q : Int))).map (fun (q : Nat) => (q : Int)), fun _ => ⟨?_, fun x => ?_⟩, fun h => by rw [hB] at h; cases h⟩
  · refine List.pairwise_map.2 ?_
    exact (List.Pairwise.filter _ List.pairwise_lt_range).imp fun h => by omega
  · rw [List.mem_map]
    constructor
    · rintro ⟨q, hq, rfl⟩
      exact bof_iff.1 (List.mem_filter.1 hq).2
    · intro hx
      have := rch_in hB hx
      have e : ((x.toNat : Nat) : Int) = x := by omega
      exact ⟨x.toNat, List.mem_filter.2 ⟨List.mem_range.2 (by omega), bof_iff.2 (by rw [e]; exact hx)⟩, e⟩
theorem row_ex (hB : nfaB zs = true) : ∀ i, ∃ l, LRow zs t i l
  | 0 => ⟨[], rfl⟩
  | i + 1 => by
    obtain ⟨l, hl⟩ := row_ex hB i
    obtain ⟨R, hR⟩ := spr_ex hB i t.size (l ++ [0])
    obtain ⟨m, hm⟩ := on_ex zs (chB t i) R
    exact ⟨m, hl.next hR hm⟩
theorem nfa_node (hB : nfaB zs = true) {x : Int} (h0 : 0 ≤ x) (h1 : x < zs.length) : nodeB zs.length (ndAt zs x) = true := by
  unfold nfaB at hB
  rw [Bool.and_eq_true] at hB
  have hk : x.toNat < zs.length := by omega
  exact List.all_eq_true.1 hB.1 _ (by rw [← ndAt_get hk]; exact List.getElem_mem _)
theorem nd_byt {n : Int} {z : Int × ByteArray × Int × Int} {c : Int} (h : nodeB n z = true) (ht : ndTk z c = true) : inI z.2.2.1 0 (n - 1) = true := by
  obtain ⟨k, s, a, b⟩ := z
  have hk : k = 2 ∨ k = 1 ∨ k = 3 := by
    unfold ndTk at ht
    simp only [Bool.or_eq_true, Bool.and_eq_true, beq_iff_eq] at ht
    omega
  rcases hk with rfl | rfl | rfl
  · rw [nd_leaf (.inl rfl), Bool.and_eq_true] at h
    exact h.1
  · rw [nd_byte, Bool.and_eq_true] at h
    exact h.1
  · rw [nd_set, Bool.and_eq_true] at h
    exact h.1
theorem stp_in (hB : nfaB zs = true) {x y : Int} {i j : Nat} (h : Stp zs t x i y j) : 0 ≤ y ∧ y < zs.length := by
  cases h with
  | eps h0 h1 hn =>
    have := inI_iff.1 (nd_nxt (nfa_node hB h0 h1) hn)
    omega
  | byte h0 h1 _ hn =>
    have := inI_iff.1 (nd_byt (nfa_node hB h0 h1) hn)
    omega
theorem run_snoc : ∀ {n : Nat} {x z : Int} {i k : Nat}, Run zs t (n + 1) x i z k → ∃ y j, Run zs t n x i y j ∧ Stp zs t y j z k
  | 0, _, _, _, _, .cons s r => by
    cases r
    exact ⟨_, _, .nil, s⟩
  | _ + 1, _, _, _, _, .cons s r => by
    obtain ⟨y, j, h1, h2⟩ := run_snoc r
    exact ⟨y, j, .cons s h1, h2⟩
theorem nfa_pos (hB : nfaB zs = true) : 0 < zs.length := by
  unfold nfaB at hB
  rw [Bool.and_eq_true, Bool.and_eq_true] at hB
  have := inI_iff.1 hB.2.1
  omega
/-- What is run to is in the rows. -/
theorem run_row (hB : nfaB zs = true) : ∀ {n a : Nat} {x : Int} {i : Nat} {l R : List Int}, Run zs t n 0 a x i → LRow zs t i l → SprO zs i t.size (l ++ [0]) R → x ∈ R
  | 0, _, _, _, l, R, h, _, hR => by
    cases h
    have := nfa_pos hB
    exact ((hR.1 hB).2 0).2 (.base (by simp) (inI_iff.2 (by omega)))
  | n + 1, a, x, i, l, R, h, hl, hR => by
    obtain ⟨y, j, h1, h2⟩ := run_snoc h
    have hin := stp_in hB h2
    cases h2 with
    | eps _ _ hn => exact ((hR.1 hB).2 x).2 (.step (((hR.1 hB).2 y).1 (run_row hB h1 hl hR)) hn)
    | byte h0 h3 hi hn =>
      obtain ⟨l0, R0, k1, k2, k3⟩ := hl
      have hy := run_row hB h1 k1 k2
      refine ((hR.1 hB).2 _).2 (.base (List.mem_append_left _ ((k3.2.1 _).2 ?_)) (inI_iff.2 (by omega)))
      unfold onW
      refine List.mem_filterMap.2 ⟨y, hy, ?_⟩
      unfold onF
      rw [if_pos (inI_iff.2 (by omega)), if_pos hn]
/-- What is in the rows is run to. -/
theorem row_run (hB : nfaB zs = true) : ∀ {i : Nat} {l R : List Int}, i ≤ t.size → LRow zs t i l → SprO zs i t.size (l ++ [0]) R → ∀ x, x ∈ R → ∃ a n, a ≤ i ∧ Run zs t n 0 a x i := fun {i} => by
  induction i with
  | zero =>
    intro l R _ hl hR x hx
    have hl' : l = [] := hl
    subst hl'
    have hx := ((hR.1 hB).2 x).1 hx
    induction hx with
    | base hk _ =>
      obtain rfl : _ = (0 : Int) := by simpa using hk
      exact ⟨0, 0, Nat.le_refl _, .nil⟩
    | step hr hn ih =>
      have := rch_in hB hr
      obtain ⟨a, n, h1, h2⟩ := ih (((hR.1 hB).2 _).2 hr)
      exact ⟨a, n + 1, h1, h2.app (.cons (.eps this.1 this.2 hn) .nil)⟩
  | succ i ih0 =>
    intro l R hi hl hR x hx
    obtain ⟨l0, R0, k1, k2, k3⟩ := hl
    have hx := ((hR.1 hB).2 x).1 hx
    induction hx with
    | base hk _ =>
      rcases List.mem_append.1 hk with hk | hk
      · have hk := (k3.2.1 _).1 hk
        unfold onW at hk
        obtain ⟨y, hy, he⟩ := List.mem_filterMap.1 hk
        unfold onF at he
        split at he
        · rename_i hin
          split at he
          · rename_i htk
            cases he
            obtain ⟨a, n, h1, h2⟩ := ih0 (by omega) k1 k2 y hy
            have := inI_iff.1 hin
            exact ⟨a, n + 1, by omega, h2.app (.cons (.byte (by omega) (by omega) (by omega) htk) .nil)⟩
          · cases he
        · cases he
      · obtain rfl := List.mem_singleton.1 hk
        exact ⟨i + 1, 0, Nat.le_refl _, .nil⟩
    | step hr hn ih =>
      have := rch_in hB hr
      obtain ⟨a, n, h1, h2⟩ := ih (((hR.1 hB).2 _).2 hr)
      exact ⟨a, n + 1, h1, h2.app (.cons (.eps this.1 this.2 hn) .nil)⟩
/-- Whether it matches. -/
theorem NmB.run (hB : nfaB zs = true) {b : Bool} (h : NmB zs t b) : b = true ↔ ∃ (i a n : Nat) (x : Int), i ≤ t.size ∧ a ≤ i ∧ Run zs t n 0 a x i ∧ (ndAt zs x).1 = 7 := by
  refine (show b = true ↔ _ from h).trans ⟨fun ⟨i, l, R, k, hi, hl, hR, hk, h7⟩ => ?_, fun ⟨i, a, n, x, hi, _, hr, h7⟩ => ?_⟩
  · obtain ⟨a, n, h1, h2⟩ := row_run hB hi hl hR k hk
    exact ⟨i, a, n, k, hi, h1, h2, h7⟩
  · obtain ⟨l, hl⟩ := row_ex (t := t) hB i
    obtain ⟨R, hR⟩ := spr_ex hB i t.size (l ++ [0])
    exact ⟨i, l, R, x, hi, hl, hR, run_row hB hr hl hR, h7⟩
end

end Go.Proofs.Ytnoekbgmhnhneaa
