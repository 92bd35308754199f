/- What a machine matches, round by round. No program in sight. -/
import Derived.Test.YtnoekbgmhnhneaaSpT
namespace Go.Proofs.Ytnoekbgmhnhneaa
open Go.RowKit

/-- A text's byte at a place. -/
def chB (s : ByteArray) (i : Nat) : Int := if h : i < s.size then (s[i].toNat : Int) else 0
theorem chB_get {s : ByteArray} {i : Nat} (h : i < s.size) : chB s i = (s[i].toNat : Int) := by unfold chB; rw [dif_pos h]
section
variable (zs : List (Int × ByteArray × Int × Int)) (s : ByteArray)
/-- The row ahead of round i. -/
def LRow : Nat → List Int → Prop
  | 0, l => l = []
  | i + 1, l => ∃ l0 R, LRow i l0 ∧ SprO zs i s.size (l0 ++ [0]) R ∧ OnR zs (chB s i) R l
/-- No round ahead of i comes to the end. -/
def NmNo (i : Nat) : Prop := ∀ j, j < i → ∀ l R, LRow zs s j l → SprO zs j s.size (l ++ [0]) R → ∀ k, k ∈ R → (ndAt zs k).1 ≠ 7
/-- Whether it matches. -/
def NmB (b : Bool) : Prop := b = true ↔ ∃ (i : Nat) (l R : List Int) (k : Int), i ≤ s.size ∧ LRow zs s i l ∧ SprO zs i s.size (l ++ [0]) R ∧ k ∈ R ∧ (ndAt zs k).1 = 7
end
section
variable {zs : List (Int × ByteArray × Int × Int)} {s : ByteArray}
theorem SprO.one {a t : Int} {l R S : List Int} (h : SprO zs a t l R) (k : SprO zs a t l S) : R = S := by
  cases hq : nfaB zs
  · rw [h.2 hq, k.2 hq]
  · exact (h.1 hq).same (k.1 hq)
theorem SprO.len_le {a t : Int} {l R : List Int} (h : SprO zs a t l R) : R.length ≤ zs.length := by
  cases hq : nfaB zs
  · rw [h.2 hq]
    exact Nat.zero_le _
  · exact ris_bound (h.1 hq).1 fun x hx => rch_in hq (((h.1 hq).2 x).1 hx)
theorem SprO.in_ {a t : Int} {l R : List Int} (h : SprO zs a t l R) {x : Int} (hx : x ∈ R) : 0 ≤ x ∧ x < zs.length := by
  cases hq : nfaB zs
  · rw [h.2 hq] at hx
    cases hx
  · exact rch_in hq (((h.1 hq).2 x).1 hx)
theorem LRow.same : ∀ {i : Nat} {l m : List Int}, LRow zs s i l → LRow zs s i m → l = m
  | 0, _, _, h, k => h.trans k.symm
  | _ + 1, _, _, h, k => by
    obtain ⟨l0, R, h1, h2, h3⟩ := h
    obtain ⟨m0, S, k1, k2, k3⟩ := k
    obtain rfl := LRow.same h1 k1
    obtain rfl := h2.one k2
    exact h3.same k3
theorem LRow.next {i : Nat} {l R m : List Int} (h : LRow zs s i l) (hR : SprO zs i s.size (l ++ [0]) R) (hm : OnR zs (chB s i) R m) : LRow zs s (i + 1) m := ⟨l, R, h, hR, hm⟩
theorem LRow.len_le : ∀ {i : Nat} {l : List Int}, LRow zs s i l → l.length ≤ zs.length
  | 0, _, h => by rw [show _ = [] from h]; exact Nat.zero_le _
  | _ + 1, _, h => by
    obtain ⟨l0, R, _, h2, h3⟩ := h
    have := h2.len_le
    have := h3.2.2
    omega
theorem NmNo.zero : NmNo zs s 0 := fun j h => by omega
theorem NmNo.next {i : Nat} {l R : List Int} (h : NmNo zs s i) (hl : LRow zs s i l) (hR : SprO zs i s.size (l ++ [0]) R) (hn : ∀ k, k ∈ R → (ndAt zs k).1 ≠ 7) : NmNo zs s (i + 1) := fun j hj m S hm hS => by
  by_cases e : j = i
  · subst e
    obtain rfl := hl.same hm
    obtain rfl := hR.one hS
    exact hn
  · exact h j (by omega) m S hm hS
theorem NmB.yes {i : Nat} {l R : List Int} {k : Int} (hi : i ≤ s.size) (hl : LRow zs s i l) (hR : SprO zs i s.size (l ++ [0]) R) (hk : k ∈ R) (h7 : (ndAt zs k).1 = 7) : NmB zs s true := ⟨fun _ => ⟨i, l, R, k, hi, hl, hR, hk, h7⟩, fun _ => rfl⟩
theorem NmB.no (h : NmNo zs s (s.size + 1)) : NmB zs s false := ⟨fun e => (by cases e), fun ⟨i, l, R, k, hi, hl, hR, hk, h7⟩ => absurd h7 (h i (by omega) l R hl hR k hk)⟩
theorem NmB.bad (h : nfaB zs = false) : NmB zs s false := ⟨fun e => (by cases e), fun ⟨i, l, R, k, hi, hl, hR, hk, h7⟩ => by
  rw [hR.2 h] at hk
  cases hk⟩
theorem NmB.same {b c : Bool} (h : NmB zs s b) (k : NmB zs s c) : b = c := by
  have := h.trans k.symm
  cases b <;> cases c <;> simp_all
end
/-- One where another. -/
def Whl (p q : Prop) : Prop := p → q
/-- It hands back a yes or no of which P holds. -/
def RetBo (P : Bool → Prop) (e : Ending) : Prop := ∃ b : Bool, e = .returned (.bool b) ∧ P b
/-- No node of the first k places is the end. -/
def No7 (zs : List (Int × ByteArray × Int × Int)) (R : List Int) (k : Nat) : Prop := ∀ x, x ∈ R.take k → (ndAt zs x).1 ≠ 7
theorem No7.zero (zs : List (Int × ByteArray × Int × Int)) (R : List Int) : No7 zs R 0 := fun x h => by cases h
theorem No7.next {zs : List (Int × ByteArray × Int × Int)} {R : List Int} {k : Nat} (h : No7 zs R k) (hk : k < R.length) (hn : (ndAt zs R[k]).1 ≠ 7) : No7 zs R (k + 1) := fun x hx => by
  rw [List.take_succ_eq_append_getElem hk, List.mem_append, List.mem_singleton] at hx
  rcases hx with hx | rfl
  · exact h x hx
  · exact hn
theorem No7.all {zs : List (Int × ByteArray × Int × Int)} {R : List Int} (h : No7 zs R R.length) : ∀ x, x ∈ R → (ndAt zs x).1 ≠ 7 := fun x hx => h x (by rw [List.take_length]; exact hx)

end Go.Proofs.Ytnoekbgmhnhneaa
