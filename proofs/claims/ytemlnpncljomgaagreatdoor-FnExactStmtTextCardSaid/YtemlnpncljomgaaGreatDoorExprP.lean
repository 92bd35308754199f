import Derived.Test.YtemlnpncljomgaaGreatDoorQ0
import Derived.Test.YtemlnpncljomgaaGreatDoorQ1
import Derived.Test.YtemlnpncljomgaaGreatDoorParL
namespace Go.Proofs.YtemlnpncljomgaaGreatDoor
open Go.RowKit

structure Cnt (α : Type) where
  M : Int
  D : Int
  here : α → Fr α → Bool
section
variable {α : Type} (N : Cnt α)
def okN : Int → Fr α → Bool
  | _, .nil => true
  | d, .cons a k r => (decide (d ≤ N.D) && (N.here a k && okN (d + 1) k)) && okN d r
def okNA (here : α → Fr α → Bool) : Fr α → Bool
  | .nil => true
  | .cons a k r => (here a k && okNA here k) && okNA here r
def PartsN (mx : Int) (d : Int) (a : α) (kids : Fr α) (x : Int) : Prop :=
  1 ≤ x ∧ x ≤ mx ∧ (x ≤ N.M ↔ (d ≤ N.D ∧ N.here a kids = true ∧ okN N (d + 1) kids = true ∧ kids.size + 1 ≤ N.M)) ∧ (x ≤ N.M → x = kids.size + 1)
def InvN (d : Int) (kids : Fr α) (n : Int) (fr : Fr α) : Prop :=
  1 ≤ n ∧ n ≤ N.M ∧ n + fr.size = kids.size + 1 ∧ okN N d kids = okN N d fr
end
section
variable {α : Type} {N : Cnt α} {mx d n x : Int} {kids k r : Fr α} {a : α}
theorem InvN.start (h : 1 ≤ N.M) : InvN N d kids 1 kids := ⟨by omega, by omega, by omega, rfl⟩
theorem InvN.stop (h : InvN N d kids n (.cons a k r)) (p : PartsN N mx d a k x) (hs : N.M + 1 ≤ n + x) : ¬ (okN N d kids = true ∧ kids.size + 1 ≤ N.M) := by
  rintro ⟨h1, h2⟩
  obtain ⟨i1, i2, i3, i4⟩ := h
  obtain ⟨p1, p2, p3, p4⟩ := p
  rw [i4, okN] at h1
  simp only [Bool.and_eq_true, decide_eq_true_eq] at h1
  obtain ⟨⟨q1, q2, q3⟩, _⟩ := h1
  simp only [Fr.size] at i3
  have hx : x ≤ N.M := p3.2 ⟨q1, q2, q3, by omega⟩
  have := p4 hx
  omega
theorem InvN.next (h : InvN N d kids n (.cons a k r)) (p : PartsN N mx d a k x) (hs : n + x ≤ N.M) : InvN N d kids (n + x) r := by
  obtain ⟨i1, i2, i3, i4⟩ := h
  obtain ⟨p1, p2, p3, p4⟩ := p
  have hx : x ≤ N.M := by omega
  obtain ⟨q1, q2, q3, q4⟩ := p3.1 hx
  have := p4 hx
  simp only [Fr.size] at i3
  refine ⟨by omega, hs, by omega, ?_⟩
  rw [i4, okN, q2, q3, decide_eq_true q1]
  rfl
theorem InvN.end_ (h : InvN N d kids n .nil) : n = kids.size + 1 ∧ okN N d kids = true := by
  obtain ⟨i1, i2, i3, i4⟩ := h
  simp only [Fr.size] at i3
  exact ⟨by omega, i4⟩
theorem PartsN.deep (h0 : 0 ≤ N.M) (hm : N.M + 1 ≤ mx) (hd : N.D < d) : PartsN N mx d a kids (N.M + 1) :=
  ⟨by omega, hm, ⟨fun h => by omega, fun h => by omega⟩, fun h => by omega⟩
theorem PartsN.bad (h0 : 0 ≤ N.M) (hm : N.M + 1 ≤ mx) (hh : N.here a kids = false) : PartsN N mx d a kids (N.M + 1) :=
  ⟨by omega, hm, ⟨fun h => by omega, fun h => by rw [hh] at h; exact absurd h.2.1 Bool.false_ne_true⟩, fun h => by omega⟩
theorem PartsN.much (h0 : 0 ≤ N.M) (h1 : N.M + 1 ≤ x) (hm : x ≤ mx) (hh : ¬ (okN N (d + 1) kids = true ∧ kids.size + 1 ≤ N.M)) : PartsN N mx d a kids x :=
  ⟨by omega, hm, ⟨fun h => by omega, fun h => absurd h.2.2 hh⟩, fun h => by omega⟩
theorem PartsN.well (hd : d ≤ N.D) (hm : N.M + 1 ≤ mx) (hh : N.here a kids = true) (h : InvN N (d + 1) kids n .nil) : PartsN N mx d a kids n := by
  obtain ⟨e1, e2⟩ := h.end_
  obtain ⟨i1, i2, i3, i4⟩ := h
  exact ⟨i1, by omega, ⟨fun _ => ⟨hd, hh, e2, by omega⟩, fun _ => i2⟩, fun _ => e1⟩
end
def Cnt.none {α : Type} (N : Cnt α) : Cnt α := ⟨N.M, N.D, fun _ _ => true⟩
theorem okN_split {α : Type} (N : Cnt α) : ∀ (d : Int) (fr : Fr α), okN N d fr = (okN N.none d fr && okNA N.here fr)
  | d, .nil => rfl
  | d, .cons a k r => by
    rw [okN, okN, okNA, okN_split N (d + 1) k, okN_split N d r]
    show _ = ((decide (d ≤ N.D) && (true && _) && _) && _)
    cases decide (d ≤ N.D) <;> cases N.here a k <;> cases okN N.none (d + 1) k <;> cases okNA N.here k <;> cases okN N.none d r <;> cases okNA N.here r <;> rfl
def rightN {α : Type} (N : Cnt α) (a : α) (kids : Fr α) : Bool := (N.here a kids && okN N 2 kids) && decide (((kids.size + 1 : Nat) : Int) ≤ N.M)
theorem right_impl {α : Type} {N : Cnt α} {mx x : Int} {a : α} {kids : Fr α} (hD : 1 ≤ N.D) (h : PartsN N mx 1 a kids x) : decide (x ≤ N.M) = rightN N a kids := by
  obtain ⟨_, _, h3, _⟩ := h
  unfold rightN
  by_cases hx : x ≤ N.M
  · obtain ⟨_, q2, q3, q4⟩ := h3.1 hx
    rw [decide_eq_true hx, q2, show (2 : Int) = 1 + 1 from rfl, q3, decide_eq_true (by omega)]
    rfl
  · rw [decide_eq_false hx]
    cases q2 : N.here a kids
    · rfl
    · cases q3 : okN N 2 kids
      · rfl
      · rw [decide_eq_false (fun q4 => hx (h3.2 ⟨hD, q2, q3, by omega⟩))]; rfl
theorem right_spec {α : Type} {N : Cnt α} {mx x : Int} {a : α} {kids : Fr α} (hD : 1 ≤ N.D) (h : PartsN N.none mx 1 a kids x) : (decide (x ≤ N.M) && (okNA N.here kids && N.here a kids)) = rightN N a kids := by
  obtain ⟨_, _, h3, _⟩ := h
  unfold rightN
  rw [okN_split]
  by_cases hx : x ≤ N.M
  · obtain ⟨_, _, q3, q4⟩ := h3.1 hx
    rw [decide_eq_true hx, show (2 : Int) = 1 + 1 from rfl, q3, decide_eq_true (show ((kids.size + 1 : Nat) : Int) ≤ N.M from q4)]
    cases okNA N.here kids <;> cases N.here a kids <;> rfl
  · rw [decide_eq_false hx]
    cases q3 : okN N.none 2 kids
    · cases okNA N.here kids <;> cases N.here a kids <;> rfl
    · rw [decide_eq_false (show ¬ ((kids.size + 1 : Nat) : Int) ≤ N.M from fun q4 => hx (h3.2 ⟨hD, rfl, q3, q4⟩))]
      cases okNA N.here kids <;> cases N.here a kids <;> rfl

def exOps : List ByteArray := [⟨#[43]⟩, ⟨#[45]⟩, ⟨#[42]⟩, ⟨#[47]⟩, ⟨#[37]⟩, ⟨#[46]⟩, ⟨#[60]⟩, ⟨#[60, 61]⟩, ⟨#[61, 61]⟩, ⟨#[33, 61]⟩, ⟨#[62]⟩, ⟨#[62, 61]⟩, ⟨#[38, 38]⟩, ⟨#[124, 124]⟩]
def rexNB (s : ByteArray) : Bool := (parseP true 40 s).isSome && decide (s.size ≤ 200)
noncomputable def kindE (k : Int) (s : ByteArray) (len : Nat) : Bool :=
  if k = 1 then s.toList.isEmpty && (len == 0)
  else if k = 2 then (plainB s 39 && decide (s.size ≤ 200)) && (len == 0)
  else if k = 3 then nameOkB s && (len == 0)
  else if k = 4 then nameOkB s && (len == 1)
  else if k = 5 then s.toList.isEmpty && (len == 1)
  else if k = 6 then hasB exOps s && (len == 2)
  else if k = 7 then s.toList.isEmpty && (len == 1)
  else if k = 8 then s.toList.isEmpty && (len == 1)
  else if k = 9 then nameOkB s && (len == 1)
  else if k = 10 then rexNB s && (len == 1)
  else if k = 11 then nameOkB s && decide (len ≤ 4)
  else if k = 12 then s.toList.isEmpty && (len == 1)
  else if k = 13 then s.toList.isEmpty && (len == 3)
  else if k = 14 then s.toList.isEmpty && (len == 0)
  else if k = 15 then s.toList.isEmpty && (len == 0)
  else if k = 16 then s.toList.isEmpty && (len == 2)
  else if k = 17 then s.toList.isEmpty && (len == 1)
  else if k = 18 then rexNB s && (len == 2)
  else false
noncomputable def hereE (a : Int × Int × ByteArray) (len : Nat) : Bool := (if a.1 = 1 then inI a.2.1 0 2147483647 else a.2.1 == 0) && kindE a.1 a.2.2 len
noncomputable def cntE : Cnt (Int × Int × ByteArray) := ⟨100, 10, fun a k => hereE a k.len⟩
theorem kindE_1 (s : ByteArray) (len : Nat) : kindE 1 s len = (s.toList.isEmpty && (len == 0)) := rfl
theorem kindE_2 (s : ByteArray) (len : Nat) : kindE 2 s len = ((plainB s 39 && decide (s.size ≤ 200)) && (len == 0)) := rfl
theorem kindE_3 (s : ByteArray) (len : Nat) : kindE 3 s len = (nameOkB s && (len == 0)) := rfl
theorem kindE_4 (s : ByteArray) (len : Nat) : kindE 4 s len = (nameOkB s && (len == 1)) := rfl
theorem kindE_5 (s : ByteArray) (len : Nat) : kindE 5 s len = (s.toList.isEmpty && (len == 1)) := rfl
theorem kindE_6 (s : ByteArray) (len : Nat) : kindE 6 s len = (hasB exOps s && (len == 2)) := rfl
theorem kindE_7 (s : ByteArray) (len : Nat) : kindE 7 s len = (s.toList.isEmpty && (len == 1)) := rfl
theorem kindE_8 (s : ByteArray) (len : Nat) : kindE 8 s len = (s.toList.isEmpty && (len == 1)) := rfl
theorem kindE_9 (s : ByteArray) (len : Nat) : kindE 9 s len = (nameOkB s && (len == 1)) := rfl
theorem kindE_10 (s : ByteArray) (len : Nat) : kindE 10 s len = (rexNB s && (len == 1)) := rfl
theorem kindE_11 (s : ByteArray) (len : Nat) : kindE 11 s len = (nameOkB s && decide (len ≤ 4)) := rfl
theorem kindE_12 (s : ByteArray) (len : Nat) : kindE 12 s len = (s.toList.isEmpty && (len == 1)) := rfl
theorem kindE_13 (s : ByteArray) (len : Nat) : kindE 13 s len = (s.toList.isEmpty && (len == 3)) := rfl
theorem kindE_14 (s : ByteArray) (len : Nat) : kindE 14 s len = (s.toList.isEmpty && (len == 0)) := rfl
theorem kindE_15 (s : ByteArray) (len : Nat) : kindE 15 s len = (s.toList.isEmpty && (len == 0)) := rfl
theorem kindE_16 (s : ByteArray) (len : Nat) : kindE 16 s len = (s.toList.isEmpty && (len == 2)) := rfl
theorem kindE_17 (s : ByteArray) (len : Nat) : kindE 17 s len = (s.toList.isEmpty && (len == 1)) := rfl
theorem kindE_18 (s : ByteArray) (len : Nat) : kindE 18 s len = (rexNB s && (len == 2)) := rfl
theorem kindE_none {k : Int} (h : ∀ j ∈ ([1, 2, 3, 4, 5, 6, 7, 8, 9, 10, 11, 12, 13, 14, 15, 16, 17, 18] : List Int), k ≠ j) (s : ByteArray) (len : Nat) : kindE k s len = false := by
  unfold kindE
  rw [if_neg (h 1 (by simp)), if_neg (h 2 (by simp)), if_neg (h 3 (by simp)), if_neg (h 4 (by simp)), if_neg (h 5 (by simp)), if_neg (h 6 (by simp)), if_neg (h 7 (by simp)), if_neg (h 8 (by simp)), if_neg (h 9 (by simp)), if_neg (h 10 (by simp)), if_neg (h 11 (by simp)), if_neg (h 12 (by simp)), if_neg (h 13 (by simp)), if_neg (h 14 (by simp)), if_neg (h 15 (by simp)), if_neg (h 16 (by simp)), if_neg (h 17 (by simp)), if_neg (h 18 (by simp))]
theorem hereE_one (n : Int) (s : ByteArray) (len : Nat) : hereE (1, n, s) len = (inI n 0 2147483647 && kindE 1 s len) := rfl
theorem hereE_zero {k : Int} (h : k ≠ 1) (s : ByteArray) (len : Nat) : hereE (k, 0, s) len = kindE k s len := by
  unfold hereE
  rw [if_neg h]
  rfl
theorem hereE_not {k n : Int} (h : k ≠ 1) (hn : n ≠ 0) (s : ByteArray) (len : Nat) : hereE (k, n, s) len = false := by
  unfold hereE
  rw [if_neg h]
  simp [hn]

end Go.Proofs.YtemlnpncljomgaaGreatDoor
