/- The machine of a regular expression: what nodes a part has, at what places. No program in sight. -/
import Derived.Test.YtnoekbgmhnhneaaQ1
import Derived.Test.YtnoekbgmhnhneaaNodeS
namespace Go.Proofs.Ytnoekbgmhnhneaa
open Go.RowKit

/-- How many nodes a part of a kind has, whose n parts have s. -/
def szO (k : Int) (s n : Nat) : Nat := if k = 4 ∨ k = 9 then s else if k = 5 then s + 2 * (n - 1) else if k = 6 then s + 2 else s + 1
/-- How many nodes a row has. -/
def szF : Fr (Int × ByteArray) → Nat
  | .nil => 0
  | .cons a k r => szO a.1 (szF k) k.len + szF r
/-- A part's nodes behind p others: K gives those of its parts, one behind the other, and as alternatives. -/
def layO (a : Int × ByteArray) (s n : Nat) (K : (Nat → List (Int × ByteArray × Int × Int)) × (Nat → Int → List (Int × ByteArray × Int × Int))) (p : Nat) : List (Int × ByteArray × Int × Int) :=
  if a.1 = 1 then [(1, a.2, (p : Int) + 1, 0)]
  else if a.1 = 2 then [(2, ⟨#[]⟩, (p : Int) + 1, 0)]
  else if a.1 = 3 then [(3, a.2, (p : Int) + 1, 0)]
  else if a.1 = 10 then [(5, ⟨#[]⟩, (p : Int) + 1, 0)]
  else if a.1 = 11 then [(6, ⟨#[]⟩, (p : Int) + 1, 0)]
  else if a.1 = 4 then K.1 p
  else if a.1 = 5 then K.2 p ((p : Int) + (szO 5 s n : Nat))
  else if a.1 = 6 then (4, ⟨#[]⟩, (p : Int) + 1, (p : Int) + (szO 6 s n : Nat)) :: (K.1 (p + 1) ++ [(4, ⟨#[]⟩, (p : Int), (p : Int))])
  else if a.1 = 7 then K.1 p ++ [(4, ⟨#[]⟩, (p : Int), (p : Int) + (szO 7 s n : Nat))]
  else if a.1 = 8 then (4, ⟨#[]⟩, (p : Int) + 1, (p : Int) + (szO 8 s n : Nat)) :: K.1 (p + 1)
  else []
/-- A row's nodes: one behind the other, and as alternatives. -/
def lay2 : Fr (Int × ByteArray) → (Nat → List (Int × ByteArray × Int × Int)) × (Nat → Int → List (Int × ByteArray × Int × Int))
  | .nil => (fun _ => [], fun _ _ => [])
  | .cons a k r => (fun p => layO a (szF k) k.len (lay2 k) p ++ (lay2 r).1 (p + szO a.1 (szF k) k.len),
      fun p b => if r.len = 0 then layO a (szF k) k.len (lay2 k) p else (4, ⟨#[]⟩, (p : Int) + 1, (p : Int) + 2 + (szO a.1 (szF k) k.len : Nat)) :: (layO a (szF k) k.len (lay2 k) (p + 1) ++ ((4, ⟨#[]⟩, b, b) :: (lay2 r).2 (p + szO a.1 (szF k) k.len + 2) b)))
def layR (a : Int × ByteArray) (k : Fr (Int × ByteArray)) (p : Nat) : List (Int × ByteArray × Int × Int) := layO a (szF k) k.len (lay2 k) p
def layF (fr : Fr (Int × ByteArray)) (p : Nat) : List (Int × ByteArray × Int × Int) := (lay2 fr).1 p
def layA (fr : Fr (Int × ByteArray)) (p : Nat) (b : Int) : List (Int × ByteArray × Int × Int) := (lay2 fr).2 p b
def szR (a : Int × ByteArray) (k : Fr (Int × ByteArray)) : Nat := szO a.1 (szF k) k.len
section
variable (a : Int × ByteArray) (k r : Fr (Int × ByteArray)) (p : Nat) (b : Int) (s : ByteArray)
theorem szF_cons : szF (.cons a k r) = szR a k + szF r := rfl
theorem layF_nil : layF .nil p = [] := rfl
theorem layF_cons : layF (.cons a k r) p = layR a k p ++ layF r (p + szR a k) := rfl
theorem layA_last : layA (.cons a k .nil) p b = layR a k p := rfl
theorem layA_cons (h : r.len ≠ 0) : layA (.cons a k r) p b = (4, ⟨#[]⟩, (p : Int) + 1, (p : Int) + 2 + (szR a k : Nat)) :: (layR a k (p + 1) ++ ((4, ⟨#[]⟩, b, b) :: layA r (p + szR a k + 2) b)) := if_neg h
theorem layR_1 : layR (1, s) k p = [(1, s, (p : Int) + 1, 0)] := rfl
theorem layR_2 : layR (2, s) k p = [(2, ⟨#[]⟩, (p : Int) + 1, 0)] := rfl
theorem layR_3 : layR (3, s) k p = [(3, s, (p : Int) + 1, 0)] := rfl
theorem layR_10 : layR (10, s) k p = [(5, ⟨#[]⟩, (p : Int) + 1, 0)] := rfl
theorem layR_11 : layR (11, s) k p = [(6, ⟨#[]⟩, (p : Int) + 1, 0)] := rfl
theorem layR_4 : layR (4, s) k p = layF k p := rfl
theorem layR_5 : layR (5, s) k p = layA k p ((p : Int) + (szR (5, s) k : Nat)) := rfl
theorem layR_6 : layR (6, s) k p = (4, ⟨#[]⟩, (p : Int) + 1, (p : Int) + (szR (6, s) k : Nat)) :: (layF k (p + 1) ++ [(4, ⟨#[]⟩, (p : Int), (p : Int))]) := rfl
theorem layR_7 : layR (7, s) k p = layF k p ++ [(4, ⟨#[]⟩, (p : Int), (p : Int) + (szR (7, s) k : Nat))] := rfl
theorem layR_8 : layR (8, s) k p = (4, ⟨#[]⟩, (p : Int) + 1, (p : Int) + (szR (8, s) k : Nat)) :: layF k (p + 1) := rfl
theorem layR_9 : layR (9, s) k p = [] := rfl
end
/-- All of a row is right but for its depth. -/
def lOk : Fr (Int × ByteArray) → Bool
  | .nil => true
  | .cons a k r => (hereB a.1 a.2 k && lOk k) && lOk r
theorem lOk_of : ∀ {fr : Fr (Int × ByteArray)} {d : Int}, okG hereB d fr = true → lOk fr = true
  | .nil, _, _ => rfl
  | .cons a k r, d, h => by
    rw [okG, Bool.and_eq_true, Bool.and_eq_true, Bool.and_eq_true] at h
    rw [lOk, Bool.and_eq_true, Bool.and_eq_true]
    exact ⟨⟨h.1.2.1, lOk_of h.1.2.2⟩, lOk_of h.2⟩
theorem lOk_drop : ∀ {fr : Fr (Int × ByteArray)} (i : Nat), lOk fr = true → lOk (fr.drop i) = true
  | fr, 0, h => by rw [Fr.drop_zero]; exact h
  | .nil, i + 1, _ => rfl
  | .cons a k r, i + 1, h => by
    rw [lOk, Bool.and_eq_true] at h
    exact lOk_drop (fr := r) i h.2
theorem lOk_at {fr r : Fr (Int × ByteArray)} {a : Int × ByteArray} {k : Fr (Int × ByteArray)} {i : Nat} (h : lOk fr = true) (hd : fr.drop i = .cons a k r) : hereB a.1 a.2 k = true ∧ lOk k = true := by
  have := lOk_drop i h
  rw [hd, lOk, Bool.and_eq_true, Bool.and_eq_true] at this
  exact this.1
/-- What the kind says of the parts. -/
theorem here_parts {k : Int} {s : ByteArray} {kids : Fr (Int × ByteArray)} (h : hereB k s kids = true) :
    (k = 1 ∧ kids = .nil) ∨ (k = 2 ∧ kids = .nil) ∨ (k = 3 ∧ kids = .nil) ∨ (k = 10 ∧ kids = .nil) ∨ (k = 11 ∧ kids = .nil) ∨ (k = 9 ∧ kids = .nil) ∨ (k = 4 ∧ 2 ≤ kids.len) ∨ (k = 5 ∧ 2 ≤ kids.len) ∨ ((k = 6 ∨ k = 7 ∨ k = 8) ∧ kids.len = 1) := by
  have hn : (kids.len == 0) = true → kids = .nil := fun e => by
    cases kids with
    | nil => rfl
    | cons a k r => simp [Fr.len] at e
  by_cases k1 : k = 1
  · subst k1
    rw [here_lit, Bool.and_eq_true, Bool.and_eq_true] at h
    exact .inl ⟨rfl, hn h.2.2⟩
  by_cases k3 : k = 3
  · subst k3
    rw [here_set, Bool.and_eq_true] at h
    exact .inr (.inr (.inl ⟨rfl, hn h.2⟩))
  by_cases kl : k = 2 ∨ k = 9 ∨ k = 10 ∨ k = 11
  · rw [here_leaf kl, Bool.and_eq_true] at h
    have := hn h.2
    rcases kl with rfl | rfl | rfl | rfl
    · exact .inr (.inl ⟨rfl, this⟩)
    · exact .inr (.inr (.inr (.inr (.inr (.inl ⟨rfl, this⟩)))))
    · exact .inr (.inr (.inr (.inl ⟨rfl, this⟩)))
    · exact .inr (.inr (.inr (.inr (.inl ⟨rfl, this⟩))))
  by_cases km : k = 4 ∨ k = 5
  · rw [here_many km, Bool.and_eq_true, Bool.and_eq_true] at h
    have := inI_iff.1 h.2.1
    rcases km with rfl | rfl
    · exact .inr (.inr (.inr (.inr (.inr (.inr (.inl ⟨rfl, by omega⟩))))))
    · exact .inr (.inr (.inr (.inr (.inr (.inr (.inr (.inl ⟨rfl, by omega⟩)))))))
  by_cases kr : k = 6 ∨ k = 7 ∨ k = 8
  · rw [here_rep kr, Bool.and_eq_true, Bool.and_eq_true] at h
    exact .inr (.inr (.inr (.inr (.inr (.inr (.inr (.inr ⟨kr, by simpa using h.2.1⟩)))))))
  · rw [here_none (by simp; omega)] at h
    cases h
theorem one_kid {kids : Fr (Int × ByteArray)} (h : kids.len = 1) : ∃ a k, kids = .cons a k .nil := by
  cases kids with
  | nil => simp [Fr.len] at h
  | cons a k r =>
    cases r with
    | nil => exact ⟨a, k, rfl⟩
    | cons b l t => simp [Fr.len] at h
theorem layF_one {kids k r : Fr (Int × ByteArray)} {a : Int × ByteArray} (h : kids.len = 1) (hd : kids.drop 0 = .cons a k r) (p : Nat) : layF kids p = layR a k p := by
  rw [Fr.drop_zero] at hd
  subst hd
  cases r with
  | nil => rw [layF_cons, layF_nil, List.append_nil]
  | cons b l t => simp [Fr.len] at h
theorem size_one {kids k r : Fr (Int × ByteArray)} {a : Int × ByteArray} (hd : kids.drop 0 = .cons a k r) : k.size + 1 ≤ kids.size := by
  rw [Fr.drop_zero] at hd
  subst hd
  simp only [Fr.size]
  omega
/-- The nodes are as many as was reckoned. -/
theorem lay_len : ∀ {fr : Fr (Int × ByteArray)}, lOk fr = true → (∀ p, (layF fr p).length = szF fr) ∧ ∀ p b, (layA fr p b).length = szF fr + 2 * (fr.len - 1)
  | .nil, _ => ⟨fun _ => rfl, fun _ _ => rfl⟩
  | .cons a k r, h => by
    rw [lOk, Bool.and_eq_true, Bool.and_eq_true] at h
    obtain ⟨⟨hh, hk⟩, hr⟩ := h
    obtain ⟨k1, k2⟩ := lay_len hk
    obtain ⟨r1, r2⟩ := lay_len hr
    have hR : ∀ p, (layR a k p).length = szR a k := fun p => by
      obtain ⟨ak, asx⟩ := a
      rcases here_parts hh with ⟨e, ek⟩ | ⟨e, ek⟩ | ⟨e, ek⟩ | ⟨e, ek⟩ | ⟨e, ek⟩ | ⟨e, ek⟩ | ⟨e, _⟩ | ⟨e, _⟩ | ⟨e | e | e, _⟩
      · simp only at e; subst e ek; rfl
      · simp only at e; subst e ek; rfl
      · simp only at e; subst e ek; rfl
      · simp only at e; subst e ek; rfl
      · simp only at e; subst e ek; rfl
      · simp only at e; subst e ek; rfl
      · simp only at e; subst e
        rw [layR_4, k1]
        rfl
      · simp only at e; subst e
        rw [layR_5, k2]
        rfl
      · simp only at e; subst e
        rw [layR_6, List.length_cons, List.length_append, k1]
        rfl
      · simp only at e; subst e
        rw [layR_7, List.length_append, k1]
        rfl
      · simp only at e; subst e
        rw [layR_8, List.length_cons, k1]
        rfl
    refine ⟨fun p => by rw [layF_cons, List.length_append, hR, r1, szF_cons], fun p b => ?_⟩
    by_cases h0 : r.len = 0
    · have e : r = .nil := by
        cases r with
        | nil => rfl
        | cons b l t => simp [Fr.len] at h0
      subst e
      rw [layA_last, hR, szF_cons]
      simp [szF, Fr.len]
    · rw [layA_cons _ _ _ _ _ h0, List.length_cons, List.length_append, List.length_cons, hR, r2, szF_cons]
      simp only [Fr.len]
      omega
theorem layR_len {a : Int × ByteArray} {k : Fr (Int × ByteArray)} (hh : hereB a.1 a.2 k = true) (hk : lOk k = true) (p : Nat) : (layR a k p).length = szR a k := by
  have := (lay_len (fr := .cons a k .nil) (by rw [lOk, hh, hk]; rfl)).1 p
  rw [layF_cons, layF_nil, List.append_nil, szF_cons] at this
  exact this
/-- They are not too many. -/
theorem szF_le : ∀ fr : Fr (Int × ByteArray), szF fr + 2 * fr.len ≤ 4 * fr.size
  | .nil => Nat.le_refl _
  | .cons a k r => by
    have h1 := szF_le k
    have h2 := szF_le r
    have : szO a.1 (szF k) k.len ≤ szF k + 2 * k.len + 2 := by
      unfold szO
      split
      · omega
      · split
        · omega
        · split <;> omega
    simp only [szF, Fr.len, Fr.size]
    omega
theorem szR_le (a : Int × ByteArray) (k : Fr (Int × ByteArray)) : szR a k ≤ 4 * (k.size + 1) := by
  have := szF_le (.cons a k .nil)
  simp only [szF, Fr.len, Fr.size] at this
  unfold szR
  omega

end Go.Proofs.Ytnoekbgmhnhneaa
