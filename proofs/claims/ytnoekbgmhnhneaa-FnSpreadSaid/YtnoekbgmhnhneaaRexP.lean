/- Is a regular expression right: what RexOk's parts come to. No program in sight. -/
import Derived.Test.YtnoekbgmhnhneaaQ0
import Derived.Test.YtnoekbgmhnhneaaLit
namespace Go.Proofs.Ytnoekbgmhnhneaa
open Go.RowKit

/-- A label's text is not too long. -/
def qSmall (a : Int × ByteArray) : Prop := a.2.size ≤ 1048576
/-- The one byte of a text stands for itself. -/
def oneB (s : ByteArray) : Bool := if h : 0 < s.size then litB s[0].toNat else false
/-- Has a row an element of a kind. -/
def hasK (k : Int) : Fr (Int × ByteArray) → Bool
  | .nil => false
  | .cons a _ r => a.1 == k || hasK k r
/-- Does a row begin with what repeats. -/
def repF : Fr (Int × ByteArray) → Bool
  | .nil => false
  | .cons a _ _ => repB a.1
/-- Is a part right but for what is within. -/
def hereB (k : Int) (s : ByteArray) (kids : Fr (Int × ByteArray)) : Bool :=
  if k = 1 then s.size == 1 && (oneB s && kids.len == 0)
  else if k = 3 then setB s && kids.len == 0
  else if k = 2 ∨ k = 9 ∨ k = 10 ∨ k = 11 then s.toList.isEmpty && kids.len == 0
  else if k = 4 ∨ k = 5 then s.toList.isEmpty && (inI kids.len 2 8 && !hasK k kids)
  else if k = 6 ∨ k = 7 ∨ k = 8 then s.toList.isEmpty && (kids.len == 1 && !repF kids)
  else false
section
variable (here : Int → ByteArray → Fr (Int × ByteArray) → Bool)
/-- Is all of a row right, and no deeper than 6. -/
def okG : Int → Fr (Int × ByteArray) → Bool
  | _, .nil => true
  | d, .cons a k r => (decide (d ≤ 6) && (here a.1 a.2 k && okG (d + 1) k)) && okG d r
/-- What a count of parts says. -/
def Parts (mx : Int) (d : Int) (k : Int) (s : ByteArray) (kids : Fr (Int × ByteArray)) (x : Int) : Prop :=
  1 ≤ x ∧ x ≤ mx ∧ (x ≤ 60 ↔ (d ≤ 6 ∧ here k s kids = true ∧ okG here (d + 1) kids = true ∧ kids.size + 1 ≤ 60)) ∧ (x ≤ 60 → x = kids.size + 1)
/-- While the parts are counted: n so far, fr to come. -/
def Inv (d : Int) (kids : Fr (Int × ByteArray)) (n : Int) (fr : Fr (Int × ByteArray)) : Prop :=
  1 ≤ n ∧ n ≤ 60 ∧ n + fr.size = kids.size + 1 ∧ okG here d kids = okG here d fr
end
section
variable {here : Int → ByteArray → Fr (Int × ByteArray) → Bool} {mx d n x : Int} {kids k r : Fr (Int × ByteArray)} {a : Int × ByteArray}
theorem Inv.start : Inv here d kids 1 kids := ⟨by omega, by omega, by omega, rfl⟩
theorem Inv.stop (h : Inv here d kids n (.cons a k r)) (p : Parts here mx d a.1 a.2 k x) (hs : 61 ≤ n + x) : ¬ (okG here d kids = true ∧ kids.size + 1 ≤ 60) := by
  rintro ⟨h1, h2⟩
  obtain ⟨i1, i2, i3, i4⟩ := h
  obtain ⟨p1, p2, p3, p4⟩ := p
  rw [i4, okG] at h1
  simp only [Bool.and_eq_true, decide_eq_true_eq] at h1
  obtain ⟨⟨q1, q2, q3⟩, _⟩ := h1
  simp only [Fr.size] at i3
  have hx : x ≤ 60 := p3.2 ⟨q1, q2, q3, by omega⟩
  have := p4 hx
  omega
theorem Inv.next (h : Inv here d kids n (.cons a k r)) (p : Parts here mx d a.1 a.2 k x) (hs : n + x ≤ 60) : Inv here d kids (n + x) r := by
  obtain ⟨i1, i2, i3, i4⟩ := h
  obtain ⟨p1, p2, p3, p4⟩ := p
  have hx : x ≤ 60 := by omega
  obtain ⟨q1, q2, q3, q4⟩ := p3.1 hx
  have := p4 hx
  simp only [Fr.size] at i3
  refine ⟨by omega, hs, by omega, ?_⟩
  rw [i4, okG, q2, q3, decide_eq_true q1]
  rfl
theorem Inv.end_ (h : Inv here d kids n .nil) : n = kids.size + 1 ∧ okG here d kids = true := by
  obtain ⟨i1, i2, i3, i4⟩ := h
  simp only [Fr.size] at i3
  exact ⟨by omega, i4⟩
end
/-- Nothing is asked. -/
def noneB (_ : Int) (_ : ByteArray) (_ : Fr (Int × ByteArray)) : Bool := true
theorem Parts.deep {here : Int → ByteArray → Fr (Int × ByteArray) → Bool} {mx d k : Int} {s : ByteArray} {kids : Fr (Int × ByteArray)} (hm : 61 ≤ mx) (hd : 6 < d) : Parts here mx d k s kids 61 :=
  ⟨by omega, hm, ⟨fun h => by omega, fun h => by omega⟩, fun h => by omega⟩
theorem Parts.bad {here : Int → ByteArray → Fr (Int × ByteArray) → Bool} {mx d k : Int} {s : ByteArray} {kids : Fr (Int × ByteArray)} (hm : 61 ≤ mx) (hh : here k s kids = false) : Parts here mx d k s kids 61 :=
  ⟨by omega, hm, ⟨fun h => by omega, fun h => by rw [hh] at h; exact absurd h.2.1 Bool.false_ne_true⟩, fun h => by omega⟩
theorem Parts.much {here : Int → ByteArray → Fr (Int × ByteArray) → Bool} {mx d k x : Int} {s : ByteArray} {kids : Fr (Int × ByteArray)} (h1 : 61 ≤ x) (hm : x ≤ mx) (hh : ¬ (okG here (d + 1) kids = true ∧ kids.size + 1 ≤ 60)) : Parts here mx d k s kids x :=
  ⟨by omega, hm, ⟨fun h => by omega, fun h => absurd h.2.2 hh⟩, fun h => by omega⟩
theorem Parts.well {here : Int → ByteArray → Fr (Int × ByteArray) → Bool} {mx d k n : Int} {s : ByteArray} {kids : Fr (Int × ByteArray)} (hd : d ≤ 6) (hm : 61 ≤ mx) (hh : here k s kids = true) (h : Inv here (d + 1) kids n .nil) : Parts here mx d k s kids n := by
  obtain ⟨e1, e2⟩ := h.end_
  obtain ⟨i1, i2, i3, i4⟩ := h
  exact ⟨i1, by omega, ⟨fun _ => ⟨hd, hh, e2, by omega⟩, fun _ => i2⟩, fun _ => e1⟩
/-- What the reference's walk over a row finds: within a part of the kind pk. -/
def swB (k : Int) (s : ByteArray) (kids : Fr (Int × ByteArray)) : Bool :=
  if k = 1 then s.size == 1 && (oneB s && kids.len == 0)
  else if k = 3 then setB s && kids.len == 0
  else if k = 2 ∨ k = 9 ∨ k = 10 ∨ k = 11 then kids.len == 0 && s.toList.isEmpty
  else if k = 4 ∨ k = 5 then inI kids.len 2 8 && s.toList.isEmpty
  else if k = 6 ∨ k = 7 ∨ k = 8 then kids.len == 1 && (!repF kids && s.toList.isEmpty)
  else false
theorem sw_lit (s : ByteArray) (kids : Fr (Int × ByteArray)) : swB 1 s kids = (s.size == 1 && (oneB s && kids.len == 0)) := rfl
theorem sw_set (s : ByteArray) (kids : Fr (Int × ByteArray)) : swB 3 s kids = (setB s && kids.len == 0) := rfl
theorem sw_leaf {k : Int} (h : k = 2 ∨ k = 9 ∨ k = 10 ∨ k = 11) (s : ByteArray) (kids : Fr (Int × ByteArray)) : swB k s kids = (kids.len == 0 && s.toList.isEmpty) := by rcases h with rfl | rfl | rfl | rfl <;> rfl
theorem sw_many {k : Int} (h : k = 4 ∨ k = 5) (s : ByteArray) (kids : Fr (Int × ByteArray)) : swB k s kids = (inI kids.len 2 8 && s.toList.isEmpty) := by rcases h with rfl | rfl <;> rfl
theorem sw_rep {k : Int} (h : k = 6 ∨ k = 7 ∨ k = 8) (s : ByteArray) (kids : Fr (Int × ByteArray)) : swB k s kids = (kids.len == 1 && (!repF kids && s.toList.isEmpty)) := by rcases h with rfl | rfl | rfl <;> rfl
theorem sw_none {k : Int} (h : ∀ j ∈ ([1, 3, 2, 9, 10, 11, 4, 5, 6, 7, 8] : List Int), k ≠ j) (s : ByteArray) (kids : Fr (Int × ByteArray)) : swB k s kids = false := by
  unfold swB
  rw [if_neg (h 1 (by simp)), if_neg (h 3 (by simp)), if_neg, if_neg, if_neg]
  · rintro (e | e | e)
    · exact h 6 (by simp) e
    · exact h 7 (by simp) e
    · exact h 8 (by simp) e
  · rintro (e | e)
    · exact h 4 (by simp) e
    · exact h 5 (by simp) e
  · rintro (e | e | e | e)
    · exact h 2 (by simp) e
    · exact h 9 (by simp) e
    · exact h 10 (by simp) e
    · exact h 11 (by simp) e
theorem here_lit (s : ByteArray) (kids : Fr (Int × ByteArray)) : hereB 1 s kids = (s.size == 1 && (oneB s && kids.len == 0)) := rfl
theorem here_set (s : ByteArray) (kids : Fr (Int × ByteArray)) : hereB 3 s kids = (setB s && kids.len == 0) := rfl
theorem here_leaf {k : Int} (h : k = 2 ∨ k = 9 ∨ k = 10 ∨ k = 11) (s : ByteArray) (kids : Fr (Int × ByteArray)) : hereB k s kids = (s.toList.isEmpty && kids.len == 0) := by rcases h with rfl | rfl | rfl | rfl <;> rfl
theorem here_many {k : Int} (h : k = 4 ∨ k = 5) (s : ByteArray) (kids : Fr (Int × ByteArray)) : hereB k s kids = (s.toList.isEmpty && (inI kids.len 2 8 && !hasK k kids)) := by rcases h with rfl | rfl <;> rfl
theorem here_rep {k : Int} (h : k = 6 ∨ k = 7 ∨ k = 8) (s : ByteArray) (kids : Fr (Int × ByteArray)) : hereB k s kids = (s.toList.isEmpty && (kids.len == 1 && !repF kids)) := by rcases h with rfl | rfl | rfl <;> rfl
theorem here_none {k : Int} (h : ∀ j ∈ ([1, 3, 2, 9, 10, 11, 4, 5, 6, 7, 8] : List Int), k ≠ j) (s : ByteArray) (kids : Fr (Int × ByteArray)) : hereB k s kids = false := by
  unfold hereB
  rw [if_neg (h 1 (by simp)), if_neg (h 3 (by simp)), if_neg, if_neg, if_neg]
  · rintro (e | e | e)
    · exact h 6 (by simp) e
    · exact h 7 (by simp) e
    · exact h 8 (by simp) e
  · rintro (e | e)
    · exact h 4 (by simp) e
    · exact h 5 (by simp) e
  · rintro (e | e | e | e)
    · exact h 2 (by simp) e
    · exact h 9 (by simp) e
    · exact h 10 (by simp) e
    · exact h 11 (by simp) e
theorem oneB_is {s : ByteArray} (h : 0 < s.size) : oneB s = litB s[0].toNat := by unfold oneB; rw [dif_pos h]
theorem repF_is {a : Int × ByteArray} {k r x : Fr (Int × ByteArray)} (h : x = .cons a k r) : repF x = repB a.1 := by rw [h]; rfl
def okS : Int → Fr (Int × ByteArray) → Bool
  | _, .nil => true
  | pk, .cons a k r => ((okS a.1 k && swB a.1 a.2 k) && !(a.1 == pk && !repB pk)) && okS pk r
/-- All of a row is right, but for its depth. -/
def okA : Fr (Int × ByteArray) → Bool
  | .nil => true
  | .cons a k r => (hereB a.1 a.2 k && okA k) && okA r
theorem hasK_len {k : Int} {kids : Fr (Int × ByteArray)} (h : kids.len = 0) : hasK k kids = false := by
  cases kids with
  | nil => rfl
  | cons a b c => simp [Fr.len] at h
theorem here_sw (k : Int) (s : ByteArray) (kids : Fr (Int × ByteArray)) : hereB k s kids = (swB k s kids && (repB k || !hasK k kids)) := by
  have hl : ∀ b : Bool, (b && kids.len == 0) = ((b && kids.len == 0) && (repB k || !hasK k kids)) := by
    intro b
    by_cases h : kids.len = 0
    · rw [hasK_len h]; simp
    · simp [h]
  unfold hereB swB
  by_cases h1 : k = 1
  · rw [if_pos h1, if_pos h1, ← Bool.and_assoc]; exact hl _
  rw [if_neg h1, if_neg h1]
  by_cases h3 : k = 3
  · rw [if_pos h3, if_pos h3]; exact hl _
  rw [if_neg h3, if_neg h3]
  by_cases h2 : k = 2 ∨ k = 9 ∨ k = 10 ∨ k = 11
  · rw [if_pos h2, if_pos h2, Bool.and_comm (kids.len == 0)]; exact hl _
  rw [if_neg h2, if_neg h2]
  by_cases h4 : k = 4 ∨ k = 5
  · rw [if_pos h4, if_pos h4]
    have : repB k = false := by rcases h4 with rfl | rfl <;> rfl
    rw [this, Bool.false_or, Bool.and_comm (inI _ _ _) (s.toList.isEmpty), Bool.and_assoc]
  rw [if_neg h4, if_neg h4]
  by_cases h6 : k = 6 ∨ k = 7 ∨ k = 8
  · rw [if_pos h6, if_pos h6]
    have : repB k = true := by rcases h6 with rfl | rfl | rfl <;> rfl
    rw [this]
    cases s.toList.isEmpty <;> cases (kids.len == 1) <;> cases repF kids <;> rfl
  rw [if_neg h6, if_neg h6]
  rfl
theorem okS_okA : ∀ (pk : Int) (fr : Fr (Int × ByteArray)), okS pk fr = (okA fr && (repB pk || !hasK pk fr))
  | pk, .nil => by simp [okS, okA, hasK]
  | pk, .cons a k r => by
    rw [okS, okA, hasK, okS_okA a.1 k, okS_okA pk r, here_sw]
    cases okA k <;> cases repB a.1 <;> cases hasK a.1 k <;> cases swB a.1 a.2 k <;> cases (a.1 == pk) <;> cases repB pk <;> cases okA r <;> cases hasK pk r <;> rfl
theorem okG_split : ∀ (d : Int) (fr : Fr (Int × ByteArray)), okG hereB d fr = (okG noneB d fr && okA fr)
  | d, .nil => rfl
  | d, .cons a k r => by
    rw [okG, okG, okA, okG_split (d + 1) k, okG_split d r]
    unfold noneB
    cases decide (d ≤ 6) <;> cases hereB a.1 a.2 k <;> cases okG (fun _ _ _ => true) (d + 1) k <;> cases okA k <;> cases okG (fun _ _ _ => true) d r <;> cases okA r <;> rfl
/-- Is a regular expression right. -/
def rexB (k : Int) (s : ByteArray) (kids : Fr (Int × ByteArray)) : Bool := (hereB k s kids && okG hereB 2 kids) && decide (kids.size + 1 ≤ 60)
theorem rexB_impl {k x : Int} {s : ByteArray} {kids : Fr (Int × ByteArray)} (h : Parts hereB 61 1 k s kids x) : decide (x ≤ 60) = rexB k s kids := by
  obtain ⟨_, _, h3, _⟩ := h
  unfold rexB
  by_cases hx : x ≤ 60
  · obtain ⟨_, q2, q3, q4⟩ := h3.1 hx
    rw [decide_eq_true hx, q2, show (2 : Int) = 1 + 1 from rfl, q3, decide_eq_true q4]
    rfl
  · rw [decide_eq_false hx]
    cases q2 : hereB k s kids
    · rfl
    · cases q3 : okG hereB 2 kids
      · rfl
      · rw [decide_eq_false (fun q4 => hx (h3.2 ⟨by omega, q2, q3, q4⟩))]; rfl
theorem rexB_spec {k x mx : Int} {s : ByteArray} {kids : Fr (Int × ByteArray)} (h : Parts noneB mx 1 k s kids x) : (decide (x ≤ 60) && (okS k kids && swB k s kids)) = rexB k s kids := by
  obtain ⟨_, _, h3, _⟩ := h
  unfold rexB
  rw [okS_okA, okG_split, here_sw]
  by_cases hx : x ≤ 60
  · obtain ⟨_, _, q3, q4⟩ := h3.1 hx
    rw [decide_eq_true hx, show (2 : Int) = 1 + 1 from rfl, q3, decide_eq_true q4]
    cases okA kids <;> cases repB k <;> cases hasK k kids <;> cases swB k s kids <;> rfl
  · rw [decide_eq_false hx]
    cases q3 : okG noneB 2 kids
    · cases okA kids <;> cases repB k <;> cases hasK k kids <;> cases swB k s kids <;> rfl
    · rw [decide_eq_false (fun q4 => hx (h3.2 ⟨by omega, rfl, q3, q4⟩))]
      cases okA kids <;> cases repB k <;> cases hasK k kids <;> cases swB k s kids <;> rfl

end Go.Proofs.Ytnoekbgmhnhneaa
