/- Plain facts of Replace: nothing matches; once; with itself; all. -/
import Derived.Test.YtdfcgnbklnceiaaRepl
namespace Go.Proofs.Ytdfcgnbklnceiaa

section
variable {E : Nat → List Nat} {s t : ByteArray} {all : Bool}
theorem ext_join (s : ByteArray) {a b c : Nat} (h : a ≤ b) (h' : b ≤ c) : s.extract a b ++ s.extract b c = s.extract a c := by
  rw [ByteArray.extract_append_extract, Nat.min_eq_left h, Nat.max_eq_right h']
/-- Where nothing ends, each byte is kept. -/
theorem rpl_skip : ∀ (d a f : Nat) (x : ByteArray) (n : Nat), (∀ i, a ≤ i → i < a + d → ¬ ((all || n == 0) = true ∧ (E i).length ≠ 0)) → a + d ≤ s.size + 1 → rpl E s t all (f + d) a n x = rpl E s t all f (a + d) n (x ++ s.extract a (a + d))
  | 0, a, f, x, n, _, _ => by
    have h0 : (s.extract a (a + 0)).size = 0 := by rw [ByteArray.size_extract]; omega
    rw [ByteArray.size_eq_zero_iff.1 h0, ByteArray.append_empty]
    rfl
  | d + 1, a, f, x, n, h, hd => by
    have h1 := rpl_no (f := f + d) (show ¬ s.size < a by omega) (h a (Nat.le_refl _) (by omega)) (rfl : rpl E s t all (f + d + 1) a n x = _)
    rw [show f + (d + 1) = f + d + 1 from rfl, ← h1, rpl_skip d (a + 1) f _ n (fun i h1 h2 => h i (by omega) (by omega)) (by omega), ByteArray.append_assoc, ext_join s (by omega) (by omega), show a + 1 + d = a + (d + 1) by omega]
theorem rpl_over {f a n : Nat} {x : ByteArray} (h : s.size < a) : rpl E s t all f a n x = (x, n) := rpl_end h rfl
theorem ext_all (s : ByteArray) {a c : Nat} (h : s.size ≤ c) : s.extract a c = s.extract a s.size := by
  by_cases ha : a ≤ s.size
  · rw [← ext_join s ha h]
    have h0 : (s.extract s.size c).size = 0 := by rw [ByteArray.size_extract]; omega
    rw [ByteArray.size_eq_zero_iff.1 h0, ByteArray.append_empty]
  · have h0 : (s.extract a c).size = 0 := by rw [ByteArray.size_extract]; omega
    have h1 : (s.extract a s.size).size = 0 := by rw [ByteArray.size_extract]; omega
    rw [ByteArray.size_eq_zero_iff.1 h0, ByteArray.size_eq_zero_iff.1 h1]
/-- The rest is kept. -/
theorem rpl_copy {f a n : Nat} {x : ByteArray} (h : ∀ i, a ≤ i → i ≤ s.size → ¬ ((all || n == 0) = true ∧ (E i).length ≠ 0)) (ha : a ≤ s.size + 1) (hf : s.size + 1 ≤ a + f) : rpl E s t all f a n x = (x ++ s.extract a s.size, n) := by
  obtain ⟨f', rfl⟩ : ∃ f', f = f' + (s.size + 1 - a) := ⟨f - (s.size + 1 - a), by omega⟩
  rw [rpl_skip (s.size + 1 - a) a f' x n (fun i h1 h2 => h i h1 (by omega)) (by omega), rpl_over (by omega), show a + (s.size + 1 - a) = s.size + 1 by omega, ext_all s (by omega)]
theorem rpl_ge : ∀ (f a n : Nat) (x : ByteArray), n ≤ (rpl E s t all f a n x).2
  | 0, _, n, _ => Nat.le_refl _
  | f + 1, a, n, x => by
    rw [rpl]
    split
    · exact Nat.le_refl _
    · split
      · split
        · exact Nat.le_trans (Nat.le_succ _) (rpl_ge f _ _ _)
        · exact Nat.le_trans (Nat.le_succ _) (rpl_ge f _ _ _)
      · exact rpl_ge f _ _ _
/-- What is said when nothing ends anywhere. -/
theorem rpl_none (h : ∀ i, i ≤ s.size → (E i).length = 0) : rpl E s t all (s.size + 1) 0 0 ⟨#[]⟩ = (s, 0) := by
  rw [rpl_copy (fun i _ hi hc => hc.2 (h i hi)) (by omega) (by omega)]
  refine Prod.ext ?_ rfl
  show ByteArray.empty ++ s.extract 0 s.size = s
  rw [ByteArray.empty_append, ByteArray.extract_zero_size]
/-- The first place that has an end. -/
theorem rpl_first {k : Nat} (hk : k ≤ s.size) (h : ∀ i, i < k → (E i).length = 0) : rpl E s t all (s.size + 1) 0 0 ⟨#[]⟩ = rpl E s t all (s.size - k + 1) k 0 (s.extract 0 k) := by
  have h1 := rpl_skip (E := E) (s := s) (t := t) (all := all) k 0 (s.size - k + 1) ⟨#[]⟩ 0 (fun i _ hi hc => hc.2 (h i (by omega))) (by omega)
  rw [show s.size - k + 1 + k = s.size + 1 by omega, Nat.zero_add] at h1
  rw [h1]
  exact congrArg _ ByteArray.empty_append
theorem rpl_once {k : Nat} (hk : k ≤ s.size) (h : ∀ i, i < k → (E i).length = 0) (h1 : (E k).length ≠ 0) (h2 : k ≤ (E k).getLastD 0) (h3 : (E k).getLastD 0 ≤ s.size) : rpl E s t false (s.size + 1) 0 0 ⟨#[]⟩ = (s.extract 0 k ++ t ++ s.extract ((E k).getLastD 0) s.size, 1) := by
  rw [rpl_first hk h]
  by_cases hl : k < (E k).getLastD 0
  · rw [← rpl_far (by omega) ⟨rfl, h1⟩ hl rfl, rpl_copy (fun i _ _ hc => by cases hc.1) (by omega) (by omega)]
  · have he : (E k).getLastD 0 = k := by omega
    rw [← rpl_here (by omega) ⟨rfl, h1⟩ hl rfl, rpl_copy (fun i _ _ hc => by cases hc.1) (by omega) (by omega), he, ByteArray.append_assoc]
    by_cases hks : k < s.size
    · rw [ext_join s (by omega) (by omega)]
    · have : k = s.size := by omega
      subst this
      rw [ext_all s (show s.size ≤ s.size + 1 by omega)]
      congr 2
      have h0 : (s.extract (s.size + 1) s.size).size = 0 := by rw [ByteArray.size_extract]; omega
      rw [ByteArray.size_eq_zero_iff.1 h0, ByteArray.append_empty]
theorem rpl_many {k : Nat} (hk : k ≤ s.size) (h : ∀ i, i < k → (E i).length = 0) (h1 : (E k).length ≠ 0) : 1 ≤ (rpl E s t all (s.size + 1) 0 0 ⟨#[]⟩).2 := by
  rw [rpl_first hk h]
  by_cases hl : k < (E k).getLastD 0
  · rw [← rpl_far (by omega) ⟨by cases all <;> rfl, h1⟩ hl rfl]
    exact rpl_ge _ _ _ _
  · rw [← rpl_here (by omega) ⟨by cases all <;> rfl, h1⟩ hl rfl]
    exact rpl_ge _ _ _ _
end
theorem longB_inv {V : Nat → Nat → Bool} {m a b : Nat} (h : longB V m = some (a, b)) : a < m ∧ (∀ i, i < a → (rowI (V i) m).length = 0) ∧ (rowI (V a) m).length ≠ 0 ∧ b = (rowI (V a) m).getLastD 0 := by
  unfold longB at h
  obtain ⟨k, hk, e⟩ := Option.map_eq_some_iff.1 h
  injection e with e1 e2
  subst e1
  obtain ⟨h1, h2, h3⟩ := List.find?_range_eq_some.1 hk
  refine ⟨List.mem_range.1 h2, fun i hi => rowI_any.2 (by have := h3 i hi; simpa using this), fun h0 => ?_, e2.symm⟩
  rw [rowI_any.1 h0] at h1
  cases h1
theorem longB_inv0 {V : Nat → Nat → Bool} {m : Nat} (h : longB V m = none) : ∀ i, i < m → (rowI (V i) m).length = 0 := by
  unfold longB at h
  have h1 := List.find?_eq_none.1 (Option.map_eq_none_iff.1 h)
  exact fun i hi => rowI_any.2 (by have := h1 i (List.mem_range.2 hi); simpa using this)
theorem repl_none {zk : Int} {zs : ByteArray} {kids : Fr (Int × ByteArray)} {s : ByteArray} (h : longO zk zs kids s = none) (t : ByteArray) (all : Bool) : replO zk zs kids s t all = (s, 0) := by
  unfold replO
  split
  · rename_i hc
    rw [longO_yes hc.1 hc.2.1] at h
    exact rpl_none fun i hi => longB_inv0 h i (by omega)
  · rfl
theorem long_yes {zk : Int} {zs : ByteArray} {kids : Fr (Int × ByteArray)} {s : ByteArray} {a b : Nat} (h : longO zk zs kids s = some (a, b)) : rexB zk zs kids = true ∧ s.size ≤ 200 := by
  by_cases hc : rexB zk zs kids = true ∧ s.size ≤ 200
  · exact hc
  · rw [longO_no hc] at h
    cases h
theorem repl_some {zk : Int} {zs : ByteArray} {kids : Fr (Int × ByteArray)} {s : ByteArray} {a b : Nat} (h : longO zk zs kids s = some (a, b)) : a ≤ b ∧ b ≤ s.size ∧ ∀ t : ByteArray, t.size ≤ 200 → replO zk zs kids s t false = (s.extract 0 a ++ t ++ s.extract b s.size, 1) ∧ 1 ≤ (replO zk zs kids s t true).2 := by
  obtain ⟨hb, h2⟩ := long_yes h
  rw [longO_yes hb h2] at h
  obtain ⟨i1, i2, i3, i4⟩ := longB_inv h
  obtain ⟨e1, e2⟩ := end_last (by omega) i3
  subst i4
  refine ⟨e1, e2, fun t ht => ?_⟩
  rw [replO_yes hb h2 ht, replO_yes hb h2 ht]
  exact ⟨rpl_once (by omega) i2 i3 e1 e2, rpl_many (by omega) i2 i3⟩
theorem repl_self {s : ByteArray} {a b : Nat} (h1 : a ≤ b) (h2 : b ≤ s.size) : s.extract 0 a ++ s.extract a b ++ s.extract b s.size = s := by
  rw [ext_join s (by omega) h1, ext_join s (by omega) h2, ByteArray.extract_zero_size]

end Go.Proofs.Ytdfcgnbklnceiaa
