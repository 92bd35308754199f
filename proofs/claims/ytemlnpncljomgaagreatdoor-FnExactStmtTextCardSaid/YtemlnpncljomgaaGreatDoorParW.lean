import Derived.Test.YtemlnpncljomgaaGreatDoorDj
namespace Go.Proofs.YtemlnpncljomgaaGreatDoor
open Go.RowKit

theorem gr_setm {a w : World} {g b j : Nat} (h : a.grownBy w (some g)) (hb : a.heap.size ≤ b) (u : Value) : a.grownBy (w.setCell ⟨b, j, none⟩ u) (some g) := gr_set (p := ⟨b, j, none⟩) h (.inr hb) u
theorem gr_own {a w : World} {g j : Nat} (h : a.grownBy w (some g)) (u : Value) : a.grownBy (w.setCell ⟨g, j, none⟩ u) (some g) := gr_set (p := ⟨g, j, none⟩) h (.inl rfl) u
def nx (c : Nat) : Int := if c = 256 then 0 else c
def RetP (R : World → Nat → Bool → Prop) (n : Nat) (X : Option (Tr × Nat)) (g : Nat) (w : World) (e : Ending) (w' : World) : Prop :=
  ∃ (k : Int) (t : ByteArray) (kids : Fr (Int × ByteArray)) (A : Option Addr) (c q : Nat) (b : Bool), e = .returned (.agg #[.int .i64 k, .string t, .slice A kids.len c]) ∧ Dj w' w.heap.size w'.heap.size A kids ∧ R w' q b ∧ w.grownBy w' (some g) ∧ q ≤ n ∧ X = cond b none (some (((k, t), kids), q))
section
variable {F : Nat → Option (Tr × Nat)} {s : ByteArray} {i : Nat}
theorem atom_lit (h : litB (bA s i) = true) : atomP F s i = some (leafT 1 ⟨#[(bA s i).toUInt8]⟩, i + 1) := by unfold atomP; rw [if_pos h]
theorem atom_any (h : bA s i = 46) : atomP F s i = some (leafT 2 ⟨#[]⟩, i + 1) := by unfold atomP; rw [h]; rfl
theorem atom_begin (h : bA s i = 94) : atomP F s i = some (leafT 10 ⟨#[]⟩, i + 1) := by unfold atomP; rw [h]; rfl
theorem atom_end (h : bA s i = 36) : atomP F s i = some (leafT 11 ⟨#[]⟩, i + 1) := by unfold atomP; rw [h]; rfl
theorem atom_set (h : bA s i = 91) : atomP F s i = setP s (i + 1) := by unfold atomP; rw [h]; rfl
theorem atom_group (h : bA s i = 40) : atomP F s i = groupP F s (i + 1) := by unfold atomP; rw [h]; rfl
theorem atom_none (h : litB (bA s i) = false) (h1 : bA s i ≠ 46) (h2 : bA s i ≠ 94) (h3 : bA s i ≠ 36) (h4 : bA s i ≠ 91) (h5 : bA s i ≠ 40) : atomP F s i = none := by
  unfold atomP
  rw [if_neg (by rw [h]; exact Bool.false_ne_true), if_neg h1, if_neg h2, if_neg h3, if_neg h4, if_neg h5]
theorem set_none (h : ¬ skB s i < s.size) : setP s i = none := by unfold setP; rw [if_neg h]
theorem set_some (h : skB s i < s.size) : setP s i = some (leafT 3 (s.extract i (skB s i)), skB s i + 1) := by unfold setP; rw [if_pos h]
theorem group_empty (h : bA s i = 41) : groupP F s i = some (leafT 9 ⟨#[]⟩, i + 1) := by unfold groupP; rw [if_pos h]
theorem group_bad (h : bA s i ≠ 41) (hF : F i = none) : groupP F s i = none := by unfold groupP; rw [if_neg h, hF]
theorem group_open {x : Tr} {q : Nat} (h : bA s i ≠ 41) (hF : F i = some (x, q)) (hq : bA s q ≠ 41) : groupP F s i = none := by unfold groupP; rw [if_neg h, hF]; simp only [if_neg hq]
theorem group_some {x : Tr} {q : Nat} (h : bA s i ≠ 41) (hF : F i = some (x, q)) (hq : bA s q = 41) : groupP F s i = some (x, q + 1) := by unfold groupP; rw [if_neg h, hF]; simp only [if_pos hq]
theorem item_none (h : atomP F s i = none) : itemP F s i = none := by unfold itemP; rw [h]
theorem item_plain {x : Tr} {q : Nat} (h : atomP F s i = some (x, q)) (h0 : repK (bA s q) = 0) : itemP F s i = some (x, q) := by unfold itemP moreP; rw [h]; simp only [if_pos h0]
theorem item_rep {x : Tr} {q : Nat} {k : Int} (h : atomP F s i = some (x, q)) (h0 : repK (bA s q) = k) (hk : k ≠ 0) : itemP F s i = some (((k, ⟨#[]⟩), .cons x.1 x.2 .nil), q + 1) := by unfold itemP moreP; rw [h]; subst h0; simp only [if_neg hk]
end
theorem skB_search (s : ByteArray) (i : Nat) (hi : i ≤ s.size) : (Lib.indexByte (s.extract i s.size).data.toList 93 < 0 ∧ ¬ skB s i < s.size) ∨ (∃ n : Nat, Lib.indexByte (s.extract i s.size).data.toList 93 = n ∧ skB s i = i + n ∧ skB s i < s.size) := by
  have hl : (s.extract i s.size).data.toList = s.data.toList.drop i := Lib.extract_to_end s i
  have hsz : s.data.toList.length = s.size := by simp
  have hb : ∀ j, i ≤ j → j < s.size → ((s.data.toList.drop i)[j - i]? = some 93 ↔ bA s j = 93) := fun j h1 h2 => by
    rw [List.getElem?_drop, show i + (j - i) = j by omega, Lib.data_getElem? s j h2, bA_in h2]
    simp only [Option.some.injEq]
    exact ⟨fun h => by rw [h]; rfl, fun h => UInt8.toNat_inj.1 h⟩
  rw [hl]
  generalize hL : s.data.toList.drop i = L at hb
  have hLl : L.length = s.size - i := by rw [← hL, List.length_drop, hsz]
  clear hl hL
  have key : ∀ (L : List UInt8) (m : Nat), (Lib.indexByte L 93 < 0 ∧ ∀ j : Nat, j < L.length → L[j]? ≠ some 93) ∨ ∃ n : Nat, Lib.indexByte L 93 = n ∧ n < L.length ∧ L[n]? = some 93 ∧ ∀ j, j < n → L[j]? ≠ some 93 := by
    intro L _
    induction L with
    | nil => exact .inl ⟨by decide, fun j h => absurd h (Nat.not_lt_zero _)⟩
    | cons x r ih =>
      unfold Lib.indexByte
      by_cases hx : x = 93
      · subst hx
        exact .inr ⟨0, by simp, Nat.succ_pos _, rfl, fun j h => absurd h (Nat.not_lt_zero _)⟩
      · have hx' : (x == 93) = false := by simp [hx]
        rcases ih with ⟨h1, h2⟩ | ⟨n, h1, h2, h3, h4⟩
        · have hge := Lib.indexByte_ge r 93
          have e1 : Lib.indexByte r 93 = -1 := by omega
          refine .inl ⟨by rw [hx', if_neg Bool.false_ne_true, e1]; decide, fun j hj => ?_⟩
          cases j with
          | zero => simpa using hx
          | succ j => simpa using h2 j (by simpa using hj)
        · have e1 : (Lib.indexByte r 93 == -1) = false := beq_eq_false_iff_ne.2 (by omega)
          refine .inr ⟨n + 1, by rw [hx', if_neg Bool.false_ne_true, e1, if_neg Bool.false_ne_true, h1]; rfl, by simp; exact h2, by simpa using h3, fun j hj => ?_⟩
          cases j with
          | zero => simpa using hx
          | succ j => simpa using h4 j (by omega)
  rcases key L 0 with ⟨h1, h2⟩ | ⟨n, h1, h2, h3, h4⟩
  · refine .inl ⟨h1, ?_⟩
    rw [skB_uniq (q := s.size) hi (Nat.le_refl _) (fun j q1 q2 e => h2 (j - i) (by omega) ((hb j q1 q2).2 e)) (fun h => absurd h (Nat.lt_irrefl _))]
    exact Nat.lt_irrefl _
  · have e : skB s i = i + n := skB_uniq (by omega) (by omega) (fun j q1 q2 e => h4 (j - i) (by omega) ((hb j q1 (by omega)).2 e)) (fun h => (hb (i + n) (by omega) h).1 (by rw [show i + n - i = n by omega]; exact h3))
    exact .inr ⟨n, h1, e, by omega⟩

def lenV : Value → Nat
  | .slice _ n _ => n
  | _ => 0
theorem node_more {k : Int} {L : List Tr} (h : 2 ≤ L.length) : nodeP k L = ((k, ⟨#[]⟩), mkFr L) := by
  match L, h with
  | x :: y :: r, _ => rfl
theorem fin_some {k : Int} {L : List Tr} {q : Nat} (h : 1 ≤ L.length) : finP k (some (L, q)) = some (nodeP k L, q) := by
  match L, h with
  | x :: r, _ => rfl

end Go.Proofs.YtemlnpncljomgaaGreatDoor
