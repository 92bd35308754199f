/- The machine of a right regular expression is right, and matches where the expression has an end. No program in sight. -/
import Derived.Test.YtnoekbgmhnhneaaNfH
namespace Go.Proofs.Ytnoekbgmhnhneaa
open Go.RowKit

/-- A node that goes no farther than hi, and is not the end. -/
def okN (hi : Nat) (z : Int × ByteArray × Int × Int) : Prop := (∀ n : Int, (hi : Int) < n → nodeB n z = true) ∧ z.1 ≠ 7
theorem okN.more {hi hi' : Nat} {z : Int × ByteArray × Int × Int} (h : okN hi z) (hh : hi ≤ hi') : okN hi' z := ⟨fun n hn => h.1 n (by omega), h.2⟩
theorem nil_emp : (⟨#[]⟩ : ByteArray).toList.isEmpty = true := by
  have h : (⟨#[]⟩ : ByteArray).toList = [] := by
    rw [ByteArray.toList, ByteArray.toList.loop]
    rfl
  rw [h]
  rfl
theorem okN_split {hi a b : Nat} {x y : Int} (hx : x = a) (hy : y = b) (ha : a ≤ hi) (hb : b ≤ hi) : okN hi (4, ⟨#[]⟩, x, y) := ⟨fun n hn => by
  rw [nd_split, nil_emp, Bool.and_true, Bool.and_eq_true]
  exact ⟨inI_iff.2 (by omega), inI_iff.2 (by omega)⟩, by simp⟩
theorem okN_leaf {hi p : Nat} {k : Int} (hk : k = 2 ∨ k = 5 ∨ k = 6) (hp : p + 1 ≤ hi) : okN hi (k, ⟨#[]⟩, (p : Int) + 1, 0) := ⟨fun n hn => by
  rw [nd_leaf hk, nil_emp, Bool.and_eq_true]
  exact ⟨inI_iff.2 (by omega), rfl⟩, by simp only; omega⟩
theorem lay_ok : ∀ {fr : Fr (Int × ByteArray)}, lOk fr = true → (∀ p z, z ∈ layF fr p → okN (p + szF fr) z) ∧ (fr.len ≠ 0 → ∀ p b : Nat, b = p + szF fr + 2 * (fr.len - 1) → ∀ z, z ∈ layA fr p b → okN b z)
  | .nil, _ => ⟨fun p z h => (by cases h), fun h => absurd rfl h⟩
  | .cons a k r, h => by
    have h' := h
    rw [lOk, Bool.and_eq_true, Bool.and_eq_true] at h'
    obtain ⟨⟨hh, hk⟩, hr⟩ := h'
    obtain ⟨k1, k2⟩ := lay_ok hk
    obtain ⟨r1, r2⟩ := lay_ok hr
    have hR : ∀ p z, z ∈ layR a k p → okN (p + szR a k) z := fun p z hz => by
      obtain ⟨ak, asx⟩ := a
      rcases here_parts hh with ⟨e, ek⟩ | ⟨e, ek⟩ | ⟨e, ek⟩ | ⟨e, ek⟩ | ⟨e, ek⟩ | ⟨e, ek⟩ | ⟨e, _⟩ | ⟨e, hk2⟩ | ⟨e | e | e, hk1⟩
      · simp only at e; subst e ek
        rw [layR_1] at hz
        obtain rfl := List.mem_singleton.1 hz
        refine ⟨fun n hn => ?_, by simp⟩
        have e1 : szR (1, asx) .nil = 1 := rfl
        rw [e1] at hn
        simp only at hh
        rw [here_lit, Bool.and_eq_true] at hh
        rw [nd_byte, hh.1, Bool.and_eq_true]
        exact ⟨inI_iff.2 (by omega), rfl⟩
      · simp only at e; subst e ek
        rw [layR_2] at hz
        obtain rfl := List.mem_singleton.1 hz
        exact okN_leaf (.inl rfl) (Nat.le_refl _)
      · simp only at e; subst e ek
        rw [layR_3] at hz
        obtain rfl := List.mem_singleton.1 hz
        refine ⟨fun n hn => ?_, by simp⟩
        have e1 : szR (3, asx) .nil = 1 := rfl
        rw [e1] at hn
        simp only at hh
        rw [here_set, Bool.and_eq_true] at hh
        have h3 := hh.1
        unfold setB at h3
        rw [Bool.and_eq_true] at h3
        have h4 := inI_iff.1 h3.2
        have h5 : asx.toList.isEmpty = false := by
          cases hb : asx.toList.isEmpty with
          | false => rfl
          | true => have := emp_size hb; omega
        rw [nd_set, h5, Bool.and_eq_true]
        exact ⟨inI_iff.2 (by omega), rfl⟩
      · simp only at e; subst e ek
        rw [layR_10] at hz
        obtain rfl := List.mem_singleton.1 hz
        exact okN_leaf (.inr (.inl rfl)) (Nat.le_refl _)
      · simp only at e; subst e ek
        rw [layR_11] at hz
        obtain rfl := List.mem_singleton.1 hz
        exact okN_leaf (.inr (.inr rfl)) (Nat.le_refl _)
      · simp only at e; subst e ek
        rw [layR_9] at hz
        cases hz
      · simp only at e; subst e
        rw [layR_4] at hz
        exact k1 p z hz
      · simp only at e; subst e
        rw [layR_5] at hz
        have hb : p + szR (5, asx) k = p + szF k + 2 * (k.len - 1) := by
          show p + (szF k + 2 * (k.len - 1)) = _
          omega
        exact k2 (by omega) p _ hb z (by rw [Int.natCast_add]; exact hz)
      · simp only at e; subst e
        have es : szR (6, asx) k = szF k + 2 := rfl
        rw [layR_6] at hz
        rcases List.mem_cons.1 hz with rfl | hz
        · exact okN_split (a := p + 1) (b := p + szR (6, asx) k) (by omega) (by omega) (by omega) (Nat.le_refl _)
        · rcases List.mem_append.1 hz with hz | hz
          · exact (k1 (p + 1) z hz).more (by omega)
          · obtain rfl := List.mem_singleton.1 hz
            exact okN_split (a := p) (b := p) rfl rfl (by omega) (by omega)
      · simp only at e; subst e
        have es : szR (7, asx) k = szF k + 1 := rfl
        rw [layR_7] at hz
        rcases List.mem_append.1 hz with hz | hz
        · exact (k1 p z hz).more (by omega)
        · obtain rfl := List.mem_singleton.1 hz
          exact okN_split (a := p) (b := p + szR (7, asx) k) rfl (by omega) (by omega) (Nat.le_refl _)
      · simp only at e; subst e
        have es : szR (8, asx) k = szF k + 1 := rfl
        rw [layR_8] at hz
        rcases List.mem_cons.1 hz with rfl | hz
        · exact okN_split (a := p + 1) (b := p + szR (8, asx) k) (by omega) (by omega) (by omega) (Nat.le_refl _)
        · exact (k1 (p + 1) z hz).more (by omega)
    refine ⟨fun p z hz => ?_, fun _ p b hb z hz => ?_⟩
    · rw [layF_cons] at hz
      rw [szF_cons]
      rcases List.mem_append.1 hz with hz | hz
      · exact (hR p z hz).more (by omega)
      · exact (r1 _ z hz).more (by omega)
    · by_cases h0 : r.len = 0
      · have e : r = .nil := by
          cases r with
          | nil => rfl
          | cons b l t => simp [Fr.len] at h0
        subst e
        rw [layA_last] at hz
        have : b = p + szR a k := by rw [hb, szF_cons]; simp [szF, Fr.len]
        rw [this]
        exact hR p z hz
      · rw [layA_cons _ _ _ _ _ h0] at hz
        have hb2 : b = (p + szR a k + 2) + szF r + 2 * (r.len - 1) := by
          rw [hb, szF_cons]
          simp only [Fr.len]
          omega
        rcases List.mem_cons.1 hz with rfl | hz
        · exact okN_split (a := p + 1) (b := p + 2 + szR a k) (by omega) (by omega) (by omega) (by omega)
        · rcases List.mem_append.1 hz with hz | hz
          · exact (hR _ z hz).more (by omega)
          · rcases List.mem_cons.1 hz with rfl | hz
            · exact okN_split (a := b) (b := b) rfl rfl (by omega) (by omega)
            · exact r2 h0 _ b hb2 z hz
section
variable {zk : Int} {z : ByteArray} {kids : Fr (Int × ByteArray)}
/-- The machine of a part by itself. -/
def macL (zk : Int) (z : ByteArray) (kids : Fr (Int × ByteArray)) : List (Int × ByteArray × Int × Int) := layR (zk, z) kids 0 ++ [(7, ⟨#[]⟩, 0, 0)]
theorem lOk_one (h : hereB zk z kids = true) (hk : lOk kids = true) : lOk (.cons (zk, z) kids .nil) = true := by rw [lOk, h, hk]; rfl
theorem macL_len (h : hereB zk z kids = true) (hk : lOk kids = true) : (macL zk z kids).length = szR (zk, z) kids + 1 := by
  unfold macL
  rw [List.length_append, layR_len (a := (zk, z)) h hk]
  rfl
theorem macL_ok (h : hereB zk z kids = true) (hk : lOk kids = true) (hs : szR (zk, z) kids ≤ 299) : nfaB (macL zk z kids) = true := by
  have hl := macL_len h hk
  have h1 := (lay_ok (lOk_one h hk)).1 0
  rw [layF_cons, layF_nil, List.append_nil, szF_cons] at h1
  have e0 : szF .nil = 0 := rfl
  unfold nfaB
  rw [Bool.and_eq_true, Bool.and_eq_true]
  refine ⟨List.all_eq_true.2 fun x hx => ?_, inI_iff.2 (by omega), ?_⟩
  · rw [hl]
    unfold macL at hx
    rcases List.mem_append.1 hx with hx | hx
    · exact (h1 x hx).1 _ (by omega)
    · obtain rfl := List.mem_singleton.1 hx
      unfold nodeB
      simp
  · rw [lastB_is (by omega)]
    have : (macL zk z kids)[(macL zk z kids).length - 1]? = some (7, ⟨#[]⟩, 0, 0) := by
      rw [hl, Nat.add_sub_cancel]
      unfold macL
      rw [List.getElem?_append_right (by rw [layR_len (a := (zk, z)) h hk]; exact Nat.le_refl _), layR_len (a := (zk, z)) h hk, Nat.sub_self]
      rfl
    rw [List.getElem?_eq_getElem (by omega)] at this
    rw [Option.some.inj this]
    rfl
theorem sta_self (L M : List (Int × ByteArray × Int × Int)) : Sta (L ++ M) L 0 := fun q z hq => by
  have hq' : q < L.length := by
    rcases Nat.lt_or_ge q L.length with h1 | h1
    · exact h1
    · rw [List.getElem?_eq_none h1] at hq; cases hq
  rw [Nat.zero_add]
  refine ⟨?_, by rw [List.length_append]; omega⟩
  unfold ndAt
  rw [Int.toNat_natCast, List.getD_eq_getElem?_getD, List.getElem?_append_left hq', hq]
  rfl
/-- It matches where the part has an end. -/
theorem macL_run {t : ByteArray} {b : Bool} (h : hereB zk z kids = true) (hk : lOk kids = true) (hs : szR (zk, z) kids ≤ 299) (hb : NmB (macL zk z kids) t b) : b = true ↔ ∃ a j : Nat, a ≤ t.size ∧ j ≤ t.size ∧ relOf t zk z (rowR t kids) a j := by
  have hB := macL_ok h hk hs
  have hl := macL_len h hk
  have h1 := (lay_ok (lOk_one h hk)).1 0
  rw [layF_cons, layF_nil, List.append_nil, szF_cons] at h1
  have hP := (lay_prt (zs := macL zk z kids) (t := t) (lOk_one h hk)).1 0 (by rw [layF_cons, layF_nil, List.append_nil]; exact sta_self _ _)
  have e0 : szF .nil = 0 := rfl
  rw [show rowR t (.cons (zk, z) kids .nil) = [relOf t zk z (rowR t kids)] from rfl, cat_one, szF_cons, e0, Nat.add_zero, Nat.zero_add] at hP
  have hE : ndAt (macL zk z kids) ((szR (zk, z) kids : Nat) : Int) = (7, ⟨#[]⟩, 0, 0) := by
    unfold ndAt macL
    rw [Int.toNat_natCast, List.getD_eq_getElem?_getD, List.getElem?_append_right (by rw [layR_len (a := (zk, z)) h hk]; exact Nat.le_refl _), layR_len (a := (zk, z)) h hk, Nat.sub_self]
    rfl
  rw [NmB.run hB hb]
  constructor
  · rintro ⟨i, a, n, x, hi, ha, hr, h7⟩
    have hx : 0 ≤ x ∧ x < (macL zk z kids).length := by
      cases n with
      | zero => cases hr; omega
      | succ n =>
        obtain ⟨y, j, _, hs⟩ := run_snoc hr
        exact stp_in hB hs
    have e7 : x = (szR (zk, z) kids : Nat) := by
      rcases Int.lt_or_le x (szR (zk, z) kids : Nat) with hlt | hge
      · exfalso
        have hx' : x.toNat < (layR (zk, z) kids 0).length := by rw [layR_len (a := (zk, z)) h hk]; omega
        have : ndAt (macL zk z kids) x = (layR (zk, z) kids 0)[x.toNat] := by
          unfold ndAt macL
          rw [List.getD_eq_getElem?_getD, List.getElem?_append_left hx', List.getElem?_eq_getElem hx']
          rfl
        rw [this] at h7
        exact (h1 _ (List.getElem_mem hx')).2 h7
      · omega
    subst e7
    obtain ⟨j, m, _, hR, hr2⟩ := hP.snd n a _ i (.inr (Int.le_refl _)) hr
    cases hr2 with
    | nil => exact ⟨a, i, by omega, hi, hR⟩
    | cons s _ =>
      exfalso
      cases s with
      | eps _ _ hn =>
        unfold nxt at hn
        rw [hE] at hn
        simp at hn
      | byte _ _ _ hn =>
        rw [hE] at hn
        simp [ndTk] at hn
  · rintro ⟨a, j, ha, hj, hR⟩
    obtain ⟨n, hn⟩ := hP.whl a j ha hR
    have := hP.fwd a j (by omega) hR
    exact ⟨j, a, n, _, hj, this.1, hn, by rw [hE]⟩
end

end Go.Proofs.Ytnoekbgmhnhneaa
