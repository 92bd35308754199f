/- Plain law: a text split at blanks, rune by rune, is split byte by byte. No program in sight. -/
import Derived.Test.YtjpefadalinhoaaBase
import Derived.Lib.FieldsP
import Derived.Lib.MapLaws
import Derived.Lib.TrimUEq
import Derived.Lib.Strings
namespace Go.Proofs.Ytjpefadalinhoaa
open Go.RowKit

/-- Is it a blank: a space or a tab. -/
def spB (x : Nat) : Bool := x == 32 || x == 9
/-- The byte at a place. -/
def btAt (s : ByteArray) (i : Nat) : Nat := (s.data.toList.getD i 0).toNat
theorem dec_step (s : ByteArray) (pos : Nat) (h : pos < s.size) : 1 ≤ (Utf8.decode s pos).2 ∧ pos + (Utf8.decode s pos).2 ≤ s.size ∧ spB (Utf8.decode s pos).1 = spB (btAt s pos) ∧ (spB (btAt s pos) = true → (Utf8.decode s pos).2 = 1) ∧
    ∀ j, j < (Utf8.decode s pos).2 → spB (btAt s pos) = false → spB (btAt s (pos + j)) = false := by
  rw [Lib.decode_N]
  have hl := Lib.size_eq s
  rw [← hl]
  unfold btAt
  have e : ∀ x, 10 ≤ x → x ≠ 32 → spB x = false := fun x h1 h2 => by unfold spB; simp; omega
  rcases Lib.decodeN_shape (s.size - pos) (s.data.toList.getD pos 0).toNat (s.data.toList.getD (pos + 1) 0).toNat (s.data.toList.getD (pos + 2) 0).toNat (s.data.toList.getD (pos + 3) 0).toNat with ⟨h0, hd⟩ | ⟨h0, h1, h2, h3, hd⟩ | ⟨h0, h1, h2, h3, h4, _, hd⟩ | ⟨h0, h1, h2, h3, h4, h5, _, hd⟩ | hd
  · rw [hd]
    exact ⟨Nat.le_refl _, by show pos + 1 ≤ _; omega, rfl, fun _ => rfl, fun j hj hn => by
      have : j = 0 := by have : j < 1 := hj; omega
      subst this; exact hn⟩
  · rw [hd]
    have e0 := e (s.data.toList.getD pos 0).toNat (by omega) (by omega)
    exact ⟨by show 1 ≤ 2; omega, by show pos + 2 ≤ _; omega, by rw [e0]; exact e _ (by omega) (by omega), (fun h => by rw [e0] at h; cases h), fun j hj _ => by
      have : j = 0 ∨ j = 1 := by have : j < 2 := hj; omega
      rcases this with rfl | rfl
      · exact e0
      · exact e _ (by omega) (by omega)⟩
  · rw [hd]
    have e0 := e (s.data.toList.getD pos 0).toNat (by omega) (by omega)
    exact ⟨by show 1 ≤ 3; omega, by show pos + 3 ≤ _; omega, by rw [e0]; exact e _ (by omega) (by omega), (fun h => by rw [e0] at h; cases h), fun j hj _ => by
      have : j = 0 ∨ j = 1 ∨ j = 2 := by have : j < 3 := hj; omega
      rcases this with rfl | rfl | rfl
      · exact e0
      · exact e _ (by omega) (by omega)
      · exact e _ (by omega) (by omega)⟩
  · rw [hd]
    have e0 := e (s.data.toList.getD pos 0).toNat (by omega) (by omega)
    exact ⟨by show 1 ≤ 4; omega, by show pos + 4 ≤ _; omega, by rw [e0]; exact e _ (by omega) (by omega), (fun h => by rw [e0] at h; cases h), fun j hj _ => by
      have : j = 0 ∨ j = 1 ∨ j = 2 ∨ j = 3 := by have : j < 4 := hj; omega
      rcases this with rfl | rfl | rfl | rfl
      · exact e0
      · exact e _ (by omega) (by omega)
      · exact e _ (by omega) (by omega)
      · exact e _ (by omega) (by omega)⟩
  · by_cases hb : (s.data.toList.getD pos 0).toNat < 128
    · rw [Lib.decodeN_ascii _ _ _ _ _ hb]
      exact ⟨Nat.le_refl _, by show pos + 1 ≤ _; omega, rfl, fun _ => rfl, fun j hj hn => by
        have : j = 0 := by have : j < 1 := hj; omega
        subst this; exact hn⟩
    · rw [hd]
      have e0 := e (s.data.toList.getD pos 0).toNat (by omega) (by omega)
      exact ⟨Nat.le_refl _, by show pos + 1 ≤ _; omega, by rw [e0]; rfl, fun _ => rfl, fun j hj hn => by
        have : j = 0 := by have : j < 1 := hj; omega
        subst this; exact hn⟩

/-- The spans, byte by byte, as the reference's loop goes: the spans so far and where the next may begin. -/
def spansB (s : ByteArray) : Nat → Nat → Nat → List (Nat × Nat) → List (Nat × Nat) × Nat
  | 0, _, fr, acc => (acc, fr)
  | f + 1, pos, fr, acc => if spB (btAt s pos) = true then spansB s f (pos + 1) (pos + 1) (if fr < pos then acc ++ [(fr, pos)] else acc) else spansB s f (pos + 1) fr acc
theorem spansB_skip (s : ByteArray) (fr : Nat) (acc : List (Nat × Nat)) : ∀ (w f pos : Nat), (∀ j, j < w → spB (btAt s (pos + j)) = false) → spansB s (f + w) pos fr acc = spansB s f (pos + w) fr acc
  | 0, f, pos, _ => rfl
  | w + 1, f, pos, h => by
    show spansB s ((f + w) + 1) pos fr acc = _
    have h0 : spB (btAt s pos) = false := h 0 (by omega)
    rw [spansB, if_neg (by rw [h0]; exact Bool.false_ne_true)]
    rw [spansB_skip s fr acc w f (pos + 1) (fun j hj => by rw [Nat.add_assoc, Nat.add_comm 1 j]; exact h (j + 1) (by omega))]
    rw [Nat.add_assoc, Nat.add_comm 1 w]
theorem spans_eq (s : ByteArray) : ∀ (f pos fr : Nat) (acc : List (Nat × Nat)), s.size - pos ≤ f → fr ≤ pos → pos ≤ s.size →
    Lib.spansFromP spB s f pos (if fr < pos then some fr else none) acc = ((spansB s (s.size - pos) pos fr acc).1, if (spansB s (s.size - pos) pos fr acc).2 < s.size then some (spansB s (s.size - pos) pos fr acc).2 else none) := by
  intro f
  induction f with
  | zero =>
    intro pos fr acc hf hfr hp
    have : s.size - pos = 0 := by omega
    rw [this]
    have hps : pos = s.size := by omega
    subst hps
    rfl
  | succ f ih =>
    intro pos fr acc hf hfr hp
    by_cases hlt : pos < s.size
    · obtain ⟨h1, h2, h3, h4, h5⟩ := dec_step s pos hlt
      unfold Lib.spansFromP
      rw [if_pos hlt]
      obtain ⟨k, hk⟩ : ∃ k, s.size - pos = k + 1 := ⟨s.size - pos - 1, by omega⟩
      by_cases hsp : spB (btAt s pos) = true
      · rw [if_pos (by rw [h3]; exact hsp), h4 hsp, hk, spansB, if_pos hsp]
        have hk' : k = s.size - (pos + 1) := by omega
        have I := fun acc => ih (pos + 1) (pos + 1) acc (by omega) (Nat.le_refl _) (by omega)
        rw [if_neg (Nat.lt_irrefl _), ← hk'] at I
        by_cases hq : fr < pos
        · rw [if_pos hq, if_pos hq]; exact I _
        · rw [if_neg hq, if_neg hq]; exact I _
      · have hsf : spB (btAt s pos) = false := by simpa using hsp
        rw [if_neg (by rw [h3]; exact hsp)]
        generalize hw : (Utf8.decode s pos).2 = w at *
        have hsk := spansB_skip s fr acc w (s.size - (pos + w)) pos (fun j hj => h5 j hj hsf)
        rw [show s.size - (pos + w) + w = s.size - pos by omega] at hsk
        rw [hsk]
        have I := ih (pos + w) fr acc (by omega) (by omega) h2
        rw [if_pos (by omega)] at I
        rw [← I]
        by_cases hq : fr < pos
        · rw [if_pos hq]
        · rw [if_neg hq]
          have : fr = pos := by omega
          subst this
          rfl
    · have : s.size - pos = 0 := by omega
      unfold Lib.spansFromP
      rw [this, if_neg hlt]
      have hps : pos = s.size := by omega
      subst hps
      rfl
/-- The words of a text. -/
def wordsOf (s : ByteArray) : List ByteArray := (if (spansB s s.size 0 0 []).2 < s.size then (spansB s s.size 0 0 []).1 ++ [((spansB s s.size 0 0 []).2, s.size)] else (spansB s s.size 0 0 []).1).map fun x => s.extract x.1 x.2
theorem fields_words (s : ByteArray) : Lib.goFieldsP spB s = wordsOf s := by
  unfold Lib.goFieldsP Lib.spansOfP wordsOf
  have := spans_eq s s.size 0 0 [] (by omega) (Nat.le_refl _) (Nat.zero_le _)
  rw [if_neg (Nat.lt_irrefl _), Nat.sub_zero] at this
  rw [this]
  unfold Lib.closeSpans
  by_cases h : (spansB s s.size 0 0 []).2 < s.size
  · simp only [if_pos h]
  · simp only [if_neg h]

end Go.Proofs.Ytjpefadalinhoaa
