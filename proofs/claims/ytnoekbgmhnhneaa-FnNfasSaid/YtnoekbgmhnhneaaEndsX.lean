/- What a regular expression's part means: a relation between places of a text. No program in sight. -/
import Derived.Test.YtnoekbgmhnhneaaQ1
import Derived.Test.YtnoekbgmhnhneaaEndsR
namespace Go.Proofs.Ytnoekbgmhnhneaa

/-- Has a text a byte. -/
def hasB (s : ByteArray) (c : Int) : Bool := s.data.toList.contains c.toNat.toUInt8
theorem hasB_at {s : ByteArray} {i : Nat} (hi : i < s.size) : hasB s (s[i].toNat : Int) = true := by
  unfold hasB
  rw [Int.toNat_natCast, show s[i].toNat.toUInt8 = s[i] from by simp]
  rw [List.contains_iff_mem]
  exact List.mem_iff_getElem.2 ⟨i, by simpa using hi, rfl⟩
theorem hasB_not {s : ByteArray} {c : Int} (h0 : 0 ≤ c) (h1 : c < 256) (h : ∀ i (hi : i < s.size), (s[i].toNat : Int) ≠ c) : hasB s c = false := by
  unfold hasB
  cases hb : s.data.toList.contains c.toNat.toUInt8 with
  | false => rfl
  | true =>
    rw [List.contains_iff_mem] at hb
    obtain ⟨i, hi, e⟩ := List.mem_iff_getElem.1 hb
    have hi' : i < s.size := by simpa using hi
    refine absurd ?_ (h i hi')
    have e2 : s[i] = c.toNat.toUInt8 := e
    rw [e2]
    have : (c.toNat.toUInt8).toNat = c.toNat := by simp; omega
    omega
/-- Takes a part of one byte a byte. -/
def takeB (k : Int) (s : ByteArray) (c : Int) : Bool := k == 2 || hasB s c
/-- One byte. -/
def oneR (t : ByteArray) (k : Int) (s : ByteArray) : Rel := fun i j => j = i + 1 ∧ ∃ h : i < t.size, takeB k s (t[i].toNat : Int) = true
def catR (l : List Rel) : Rel := l.foldl compR idR
def altR (l : List Rel) : Rel := l.foldl orR noR
def hdR (l : List Rel) : Rel := l.headD idR
/-- What a part means, out of what its own parts mean. -/
def relOf (t : ByteArray) (k : Int) (s : ByteArray) (l : List Rel) : Rel :=
  if k = 1 ∨ k = 2 ∨ k = 3 then oneR t k s
  else if k = 4 then catR l
  else if k = 5 then altR l
  else if k = 6 then starR (hdR l)
  else if k = 7 then compR (hdR l) (starR (hdR l))
  else if k = 8 then orR idR (hdR l)
  else if k = 10 then fun i j => i = j ∧ i = 0
  else if k = 11 then fun i j => i = j ∧ i = t.size
  else idR
/-- What the elements of a row mean. -/
def rowR (t : ByteArray) : Fr (Int × ByteArray) → List Rel
  | .nil => []
  | .cons a k r => relOf t a.1 a.2 (rowR t k) :: rowR t r
theorem rowR_len (t : ByteArray) : ∀ fr : Fr (Int × ByteArray), (rowR t fr).length = fr.len
  | .nil => rfl
  | .cons _ _ r => by rw [rowR, List.length_cons, rowR_len t r]; rfl
theorem rowR_at {t : ByteArray} : ∀ {x : Fr (Int × ByteArray)} {i : Nat} {a : Int × ByteArray} {k : Fr (Int × ByteArray)} (hi : i < x.len), x.drop i = .cons a k (x.drop (i + 1)) → (rowR t x)[i]'(by rw [rowR_len]; exact hi) = relOf t a.1 a.2 (rowR t k)
  | .nil, i, _, _, hi, _ => by simp [Fr.len] at hi
  | .cons b q r, 0, a, k, _, h => by
    rw [Fr.drop_zero] at h
    injection h with h1 h2 _
    subst h1 h2
    rfl
  | .cons b q r, i + 1, a, k, hi, h => rowR_at (x := r) (i := i) (by simpa [Fr.len] using hi) h
theorem fwd_one (t : ByteArray) (k : Int) (s : ByteArray) : Fwd (t.size + 1) (oneR t k s) := fun i j _ ⟨h1, h2, _⟩ => by omega
theorem fwd_fold {m : Nat} {f : Rel → Rel → Rel} (hf : ∀ a b, Fwd m a → Fwd m b → Fwd m (f a b)) : ∀ (l : List Rel) (a : Rel), Fwd m a → (∀ r ∈ l, Fwd m r) → Fwd m (l.foldl f a)
  | [], _, h, _ => h
  | r :: l, a, h, hl => fwd_fold hf l (f a r) (hf a r h (hl r (List.mem_cons_self ..))) fun x hx => hl x (List.mem_cons_of_mem _ hx)
theorem fwd_cat {m : Nat} {l : List Rel} (h : ∀ r ∈ l, Fwd m r) : Fwd m (catR l) := fwd_fold (fun _ _ => Fwd.comp) l idR (fwd_id m) h
theorem fwd_alt {m : Nat} {l : List Rel} (h : ∀ r ∈ l, Fwd m r) : Fwd m (altR l) := fwd_fold (fun _ _ => Fwd.or_) l noR (fwd_no m) h
theorem fwd_hd {m : Nat} {l : List Rel} (h : ∀ r ∈ l, Fwd m r) : Fwd m (hdR l) := by
  cases l with
  | nil => exact fwd_id m
  | cons r l => exact h r (List.mem_cons_self ..)
theorem fwd_rel (t : ByteArray) (k : Int) (s : ByteArray) {l : List Rel} (h : ∀ r ∈ l, Fwd (t.size + 1) r) : Fwd (t.size + 1) (relOf t k s l) := by
  unfold relOf
  split
  · exact fwd_one t k s
  split
  · exact fwd_cat h
  split
  · exact fwd_alt h
  split
  · exact (fwd_hd h).star
  split
  · exact (fwd_hd h).comp (fwd_hd h).star
  split
  · exact (fwd_id _).or_ (fwd_hd h)
  split
  · exact fun i j hi h => by omega
  split
  · exact fun i j hi h => by omega
  · exact fwd_id _
theorem fwd_row (t : ByteArray) : ∀ (fr : Fr (Int × ByteArray)), ∀ r ∈ rowR t fr, Fwd (t.size + 1) r
  | .nil, r, h => by cases h
  | .cons a k q, r, h => by
    rcases List.mem_cons.1 h with rfl | h
    · exact fwd_rel t a.1 a.2 (fwd_row t k)
    · exact fwd_row t q r h
theorem fwd_of (t : ByteArray) (k : Int) (s : ByteArray) (fr : Fr (Int × ByteArray)) : Fwd (t.size + 1) (relOf t k s (rowR t fr)) := fwd_rel t k s (fwd_row t fr)
theorem fold_take {f : Rel → Rel → Rel} {l : List Rel} {i : Nat} (hi : i < l.length) (a : Rel) : (l.take (i + 1)).foldl f a = f ((l.take i).foldl f a) l[i] := by
  rw [List.take_succ_eq_append_getElem hi, List.foldl_append]
  rfl
theorem fwd_take {m : Nat} {l : List Rel} (h : ∀ r ∈ l, Fwd m r) (i : Nat) : ∀ r ∈ l.take i, Fwd m r := fun r hr => h r (List.mem_of_mem_take hr)
/-- An expression's rows are rows of one's own places. -/
theorem rel_one {t : ByteArray} {k : Int} {s : ByteArray} {l : List Rel} (h : k = 1 ∨ k = 2 ∨ k = 3) : relOf t k s l = oneR t k s := if_pos h
theorem rel_cat {t s : ByteArray} {l : List Rel} : relOf t 4 s l = catR l := rfl
theorem rel_alt {t s : ByteArray} {l : List Rel} : relOf t 5 s l = altR l := rfl
theorem rel_star {t s : ByteArray} {l : List Rel} : relOf t 6 s l = starR (hdR l) := rfl
theorem rel_plus {t s : ByteArray} {l : List Rel} : relOf t 7 s l = compR (hdR l) (starR (hdR l)) := rfl
theorem rel_opt {t s : ByteArray} {l : List Rel} : relOf t 8 s l = orR idR (hdR l) := rfl
theorem rel_empty {t s : ByteArray} {l : List Rel} : relOf t 9 s l = idR := rfl
theorem rel_begin {t s : ByteArray} {l : List Rel} : relOf t 10 s l = fun i j => i = j ∧ i = 0 := rfl
theorem rel_end {t s : ByteArray} {l : List Rel} : relOf t 11 s l = fun i j => i = j ∧ i = t.size := rfl
/-- The first place that has an end, and its last one. -/
def longB (V : Nat → Nat → Bool) (m : Nat) : Option (Nat × Nat) := ((List.range m).find? fun i => (List.range m).any (V i)).map fun i => (i, (rowI (V i) m).getLastD 0)
theorem rowI_any {V : Nat → Bool} {m : Nat} : (rowI V m).length = 0 ↔ (List.range m).any V = false := by
  unfold rowI
  rw [List.length_eq_zero_iff, List.filter_eq_nil_iff, List.any_eq_false]
theorem longB_none {V : Nat → Nat → Bool} {m : Nat} (h : ∀ i, i < m → (rowI (V i) m).length = 0) : longB V m = none := by
  unfold longB
  rw [List.find?_eq_none.2 fun i hi => by rw [rowI_any.1 (h i (List.mem_range.1 hi))]; exact Bool.false_ne_true]
  rfl
theorem longB_some {V : Nat → Nat → Bool} {m k : Nat} (hk : k < m) (h : ∀ i, i < k → (rowI (V i) m).length = 0) (h1 : (rowI (V k) m).length ≠ 0) : longB V m = some (k, (rowI (V k) m).getLastD 0) := by
  unfold longB
  have : (List.range m).find? (fun i => (List.range m).any (V i)) = some k := by
    rw [List.find?_range_eq_some]
    refine ⟨?_, List.mem_range.2 hk, fun j hj => ?_⟩
    · cases hb : (List.range m).any (V k) with
      | true => rfl
      | false => exact absurd (rowI_any.2 hb) h1
    · rw [rowI_any.1 (h j hj)]
      rfl
  rw [this]
  rfl
/-- What is said of the longest. -/
def longV : Option (Nat × Nat) → List Value
  | none => [.int .i64 0, .int .i64 0, .bool false]
  | some (a, b) => [.int .i64 a, .int .i64 b, .bool true]

end Go.Proofs.Ytnoekbgmhnhneaa
