import Derived.Test.YtemlnpncljomgaaGreatDoorQ1
import Derived.Test.YtemlnpncljomgaaGreatDoorExprSp
import Derived.Lib.Strings
namespace Go.Proofs.YtemlnpncljomgaaGreatDoor
open Go.RowKit

abbrev SLab := ((Int × ByteArray × ByteArray) × Fr (Int × Int × ByteArray) × Nat × Nat)
section
variable {α : Type}
def Fr.app : Fr α → Fr α → Fr α
  | .nil, s => s
  | .cons a k r, s => .cons a k (r.app s)
theorem Fr.app_size : ∀ (a b : Fr α), (a.app b).size = a.size + b.size
  | .nil, b => by simp [Fr.app, Fr.size]
  | .cons a k r, b => by rw [Fr.app, Fr.size, Fr.size, Fr.app_size r b]; omega
end
def St.fr : St → Fr SLab
  | .nil => .nil
  | .cons a x p q r => .cons (a, x, p.len, q.len) ((St.fr p).app (St.fr q)) (St.fr r)
theorem St.fr_drop : ∀ (s : St) (i : Nat), (s.drop i).fr.size ≤ s.fr.size
  | s, 0 => by rw [St.drop_zero]; exact Nat.le_refl _
  | .nil, i + 1 => Nat.le_refl _
  | .cons a x p q r, i + 1 => by
    have := St.fr_drop r i
    show (r.drop i).fr.size ≤ (Fr.cons _ _ _).size
    rw [Fr.size]
    omega
theorem St.fr_at {s : St} {i : Nat} {a : Int × ByteArray × ByteArray} {x : Fr (Int × Int × ByteArray)} {p q : St} (h : s.drop i = .cons a x p q (s.drop (i + 1))) (f : Fr SLab) :
    (s.drop i).fr.app f = .cons (a, x, p.len, q.len) (p.fr.app q.fr) ((s.drop (i + 1)).fr.app f) ∧ (p.fr.app q.fr).size < s.fr.size := by
  have h1 := s.fr_drop i
  rw [h] at h1 ⊢
  refine ⟨rfl, ?_⟩
  rw [St.fr, Fr.size] at h1
  omega
noncomputable def termsB : Fr (Int × Int × ByteArray) → Bool
  | .nil => true
  | .cons a k r => rightN cntE a k && termsB r
def callF : Fr (Int × Int × ByteArray) → Bool
  | .nil => false
  | .cons a _ _ => a.1 == 11
theorem termsB_no {x : Fr (Int × Int × ByteArray)} {i : Nat} {a : Int × Int × ByteArray} {k : Fr (Int × Int × ByteArray)} (h : x.drop i = .cons a k (x.drop (i + 1))) (hn : rightN cntE a k = false) : termsB (x.drop i) = false := by rw [h, termsB, hn, Bool.false_and]
theorem termsB_yes {x : Fr (Int × Int × ByteArray)} {i : Nat} {a : Int × Int × ByteArray} {k : Fr (Int × Int × ByteArray)} (h : x.drop i = .cons a k (x.drop (i + 1))) (hn : rightN cntE a k = true) : termsB (x.drop i) = termsB (x.drop (i + 1)) := by rw [h, termsB, hn, Bool.true_and]
theorem nameOkB_nil {s : ByteArray} (h : s.toList.isEmpty = true) : nameOkB s = false := by
  have h0 : s.size = 0 := by
    rw [Lib.toList_data] at h
    have := Lib.size_eq s
    cases hd : s.data.toList with
    | nil => rw [hd] at this; exact this
    | cons a l => rw [hd] at h; cases h
  unfold nameOkB
  rw [nameB_size (.inl h0)]
  rfl
noncomputable def kindS (k : Int) (s t : ByteArray) (x : Fr (Int × Int × ByteArray)) (p q : Nat) : Bool :=
  if k = 1 then (s.toList.isEmpty && (inI (x.len : Int) 1 5 && ((p == 0) && (q == 0))))
  else if k = 2 then (nameOkB s && ((x.len == 1) && ((p == 0) && (q == 0))))
  else if k = 3 then (nameOkB s && ((x.len == 2) && ((p == 0) && (q == 0))))
  else if k = 4 then (s.toList.isEmpty && ((x.len == 2) && ((p == 0) && (q == 0))))
  else if k = 5 then (s.toList.isEmpty && ((x.len == 1) && (true && true)))
  else if k = 6 then (s.toList.isEmpty && ((x.len == 1) && (true && (q == 0))))
  else if k = 7 then ((nameOkB s && nameOkB t) && ((x.len == 0) && (true && (q == 0))))
  else if k = 8 then (s.toList.isEmpty && ((x.len == 0) && ((p == 0) && (q == 0))))
  else if k = 9 then (s.toList.isEmpty && ((x.len == 1) && ((p == 0) && (q == 0))))
  else if k = 10 then (s.toList.isEmpty && ((x.len == 1) && ((p == 0) && (q == 0))))
  else if k = 11 then (nameOkB s && ((x.len == 1) && ((p == 0) && (q == 0))))
  else if k = 12 then (s.toList.isEmpty && ((x.len == 1 && callF x) && ((p == 0) && (q == 0))))
  else false
noncomputable def headS (k : Int) (s t : ByteArray) (x : Fr (Int × Int × ByteArray)) (p q : Nat) : Bool := ((k == 7) || t.toList.isEmpty) && kindS k s t x p q
noncomputable def hereS (l : SLab) : Bool := termsB l.2.1 && headS l.1.1 l.1.2.1 l.1.2.2 l.2.1 l.2.2.1 l.2.2.2
noncomputable def cntS : Cnt SLab := ⟨60, 5, fun a _ => hereS a⟩
theorem headS_1 (s t : ByteArray) (x : Fr (Int × Int × ByteArray)) (p q : Nat) : headS 1 s t x p q = (t.toList.isEmpty && (s.toList.isEmpty && (inI (x.len : Int) 1 5 && ((p == 0) && (q == 0))))) := rfl
theorem headS_2 (s t : ByteArray) (x : Fr (Int × Int × ByteArray)) (p q : Nat) : headS 2 s t x p q = (t.toList.isEmpty && (nameOkB s && ((x.len == 1) && ((p == 0) && (q == 0))))) := rfl
theorem headS_3 (s t : ByteArray) (x : Fr (Int × Int × ByteArray)) (p q : Nat) : headS 3 s t x p q = (t.toList.isEmpty && (nameOkB s && ((x.len == 2) && ((p == 0) && (q == 0))))) := rfl
theorem headS_4 (s t : ByteArray) (x : Fr (Int × Int × ByteArray)) (p q : Nat) : headS 4 s t x p q = (t.toList.isEmpty && (s.toList.isEmpty && ((x.len == 2) && ((p == 0) && (q == 0))))) := rfl
theorem headS_5 (s t : ByteArray) (x : Fr (Int × Int × ByteArray)) (p q : Nat) : headS 5 s t x p q = (t.toList.isEmpty && (s.toList.isEmpty && ((x.len == 1) && (true && true)))) := rfl
theorem headS_6 (s t : ByteArray) (x : Fr (Int × Int × ByteArray)) (p q : Nat) : headS 6 s t x p q = (t.toList.isEmpty && (s.toList.isEmpty && ((x.len == 1) && (true && (q == 0))))) := rfl
theorem headS_7 (s t : ByteArray) (x : Fr (Int × Int × ByteArray)) (p q : Nat) : headS 7 s t x p q = (true && ((nameOkB s && nameOkB t) && ((x.len == 0) && (true && (q == 0))))) := rfl
theorem headS_8 (s t : ByteArray) (x : Fr (Int × Int × ByteArray)) (p q : Nat) : headS 8 s t x p q = (t.toList.isEmpty && (s.toList.isEmpty && ((x.len == 0) && ((p == 0) && (q == 0))))) := rfl
theorem headS_9 (s t : ByteArray) (x : Fr (Int × Int × ByteArray)) (p q : Nat) : headS 9 s t x p q = (t.toList.isEmpty && (s.toList.isEmpty && ((x.len == 1) && ((p == 0) && (q == 0))))) := rfl
theorem headS_10 (s t : ByteArray) (x : Fr (Int × Int × ByteArray)) (p q : Nat) : headS 10 s t x p q = (t.toList.isEmpty && (s.toList.isEmpty && ((x.len == 1) && ((p == 0) && (q == 0))))) := rfl
theorem headS_11 (s t : ByteArray) (x : Fr (Int × Int × ByteArray)) (p q : Nat) : headS 11 s t x p q = (t.toList.isEmpty && (nameOkB s && ((x.len == 1) && ((p == 0) && (q == 0))))) := rfl
theorem headS_12 (s t : ByteArray) (x : Fr (Int × Int × ByteArray)) (p q : Nat) : headS 12 s t x p q = (t.toList.isEmpty && (s.toList.isEmpty && ((x.len == 1 && callF x) && ((p == 0) && (q == 0))))) := rfl
theorem headS_none {k : Int} (h : ∀ j ∈ ([1, 2, 3, 4, 5, 6, 7, 8, 9, 10, 11, 12] : List Int), k ≠ j) (s t : ByteArray) (x : Fr (Int × Int × ByteArray)) (p q : Nat) : headS k s t x p q = false := by
  unfold headS kindS
  rw [if_neg (h 1 (by simp)), if_neg (h 2 (by simp)), if_neg (h 3 (by simp)), if_neg (h 4 (by simp)), if_neg (h 5 (by simp)), if_neg (h 6 (by simp)), if_neg (h 7 (by simp)), if_neg (h 8 (by simp)), if_neg (h 9 (by simp)), if_neg (h 10 (by simp)), if_neg (h 11 (by simp)), if_neg (h 12 (by simp)), Bool.and_false]

def Tri (w : World) (lo hi : Nat) (X : Option Addr) (x : Fr (Int × Int × ByteArray)) (P : Option Addr) (p : St) (Q : Option Addr) (q : St) : Prop := Sl exprC w lo hi X x ∧ SlS w lo hi P p ∧ SlS w lo hi Q q
section
variable {w w' : World} {lo hi lo' hi' : Nat} {X : Option Addr} {x : Fr (Int × Int × ByteArray)} {P : Option Addr} {p : St} {Q : Option Addr} {q : St}
theorem Tri.keep (h : Tri w lo hi X x P p Q q) (hk : ∀ p : Addr, lo ≤ p.block → p.block < hi → w'.cell? p = w.cell? p) (hl : lo' ≤ lo) (hh : hi ≤ hi') : Tri w' lo' hi' X x P p Q q := ⟨h.1.keep hk hl hh, h.2.1.keep hk hl hh, h.2.2.keep hk hl hh⟩
theorem Tri.below (h : Tri w lo hi X x P p Q q) {B : Nat} (hb : Below B w w') (hB : hi ≤ B) : Tri w' lo hi X x P p Q q := ⟨h.1.below hb hB, h.2.1.below hb hB, h.2.2.below hb hB⟩
theorem Tri.more (h : Tri w lo hi X x P p Q q) (hl : lo' ≤ lo) (hh : hi ≤ hi') : Tri w lo' hi' X x P p Q q := ⟨h.1.more hl hh, h.2.1.more hl hh, h.2.2.more hl hh⟩
end
def qSmS (a : Int × ByteArray × ByteArray) : Prop := a.2.1.size ≤ 1048576 ∧ a.2.2.size ≤ 1048576
theorem small_of_wtS : ∀ (fr : St) (g : Int × Int × ByteArray → Nat), (∀ a, g a = a.2.2.size) → wtS g fr ≤ 1048576 → StOk qSmS qSmE fr
  | .nil, _, _, _ => trivial
  | .cons a x p q r, g, hg, h => by
    simp only [wtS] at h
    have h1 := len_wt g x
    have h2 := len_wtS g p
    have h3 := len_wtS g q
    exact ⟨⟨⟨by omega, by omega⟩, by omega, by omega, by omega⟩, small_of_wtE x g hg (by omega), small_of_wtS p g hg (by omega), small_of_wtS q g hg (by omega), small_of_wtS r g hg (by omega)⟩

end Go.Proofs.YtemlnpncljomgaaGreatDoor
