/- FnRexLaws: of drawn expressions: one or the other ends where either does; as often as may be where nothing, or once at least, does; and once at most where nothing, or it, does. No condition. -/
import Derived.Test.YtdfcgnbklnceiaaLift
import Derived.Test.YtdfcgnbklnceiaaOpenB
import Derived.Test.YtdfcgnbklnceiaaRexG
import Derived.Test.YtdfcgnbklnceiaaBig
import Derived.Test.YtdfcgnbklnceiaaEndsL
import Derived.Test.YtdfcgnbklnceiaaIntS
namespace Go.Proofs.Ytdfcgnbklnceiaa
open Go.ChangeShapes Go.WideShapes Go.ChangeAt Go.RowKit
open Go.ChangeMaps (open_string shut_string)

theorem three_of : ∀ {fr : Fr (Int × ByteArray)}, FrOk qThree fr → FrOk qSmall fr
  | .nil, _ => trivial
  | .cons _ _ _, h => ⟨Nat.le_trans h.1 (by decide), h.2.1, three_of h.2.2.1, three_of h.2.2.2⟩
theorem wt_three : ∀ {fr : Fr (Int × ByteArray)}, FrOk qThree fr → wt gRex fr ≤ 4 * fr.size
  | .nil, _ => Nat.le_refl _
  | .cons a k r, h => by
    have h1 := wt_three h.2.2.1
    have h2 := wt_three h.2.2.2
    have h3 : a.2.size ≤ 3 := h.1
    simp only [wt, gRex, Fr.size]
    omega

theorem rexB_of {k : Int} {s : ByteArray} {kids : Fr (Int × ByteArray)} (h : goodR 3 k s kids) : rexB k s kids = true := by
  unfold rexB
  have h3 : kids.size + 1 ≤ 40 := h.2.2.1
  have h2 : okG hereB 2 kids = true := h.2.1 1 (by omega)
  rw [h.1, h2, decide_eq_true (by omega)]
  rfl
theorem good_one (D : Nat) : goodR D 1 ⟨#[97]⟩ .nil := leaf_good ⟨by decide, by decide⟩ D
theorem good_rep (k : Int) (hk : k = 6 ∨ k = 7) : goodR 1 k ⟨#[]⟩ (mkFr [((1, ⟨#[97]⟩), .nil)] : Fr (Int × ByteArray)) := good_mk (by omega) (by omega) (fun x hx => by rw [List.mem_singleton.1 hx]; exact ⟨good_one 0, fun h => by omega, fun _ => rfl⟩) ⟨fun h => by omega, fun _ => rfl⟩
theorem good_up {D E : Nat} (hDE : D ≤ E) {k : Int} {s : ByteArray} {kids : Fr (Int × ByteArray)} (h : goodR D k s kids) : goodR E k s kids := by
  have hp : ∀ n, pD D ≤ pD (D + n) := fun n => by
    induction n with
    | zero => exact Nat.le_refl _
    | succ n ih => show pD D ≤ 1 + 3 * pD (D + n); omega
  have := hp (E - D)
  rw [show D + (E - D) = E by omega] at this
  exact ⟨h.1, fun d hd => h.2.1 d (by omega), Nat.le_trans h.2.2.1 this, h.2.2.2⟩
theorem good_altO : goodR 2 5 ⟨#[]⟩ (mkFr [((1, ⟨#[97]⟩), .nil), ((6, ⟨#[]⟩), mkFr [((1, ⟨#[97]⟩), .nil)])] : Fr (Int × ByteArray)) := good_mk (by omega) (by omega) (fun x hx => by
  rcases List.mem_cons.1 hx with rfl | hx
  · exact ⟨good_one 1, fun _ => by decide, fun h => by omega⟩
  · rw [List.mem_singleton.1 hx]
    exact ⟨good_rep 6 (.inl rfl), fun _ => by decide, fun h => by omega⟩) ⟨fun _ => ⟨by decide, by decide⟩, fun h => by omega⟩
/-- A place is one of the ends. -/
theorem mem_ends {zk : Int} {zs : ByteArray} {kids : Fr (Int × ByteArray)} {s : ByteArray} {a j : Nat} (h : rexB zk zs kids = true) (hs : s.size ≤ 200) (ha : a ≤ s.size) : j ∈ endsB zk zs kids s a ↔ relOf s zk zs (rowR s kids) a j := by
  rw [endsB_yes h hs ha]
  constructor
  · intro hj
    exact bof_iff.1 (List.mem_filter.1 hj).2
  · intro hr
    have := fwd_of s zk zs kids a j (by omega) hr
    exact List.mem_filter.2 ⟨List.mem_range.2 this.2, bof_iff.2 hr⟩
theorem ends_ext {zk yk : Int} {zs ys : ByteArray} {kids ky : Fr (Int × ByteArray)} {s : ByteArray} {a : Nat} (h : rexB zk zs kids = true) (h' : rexB yk ys ky = true) (hs : s.size ≤ 200) (ha : a ≤ s.size) (he : ∀ j, j < s.size + 1 → (relOf s zk zs (rowR s kids) a j ↔ relOf s yk ys (rowR s ky) a j)) : endsB zk zs kids s a = endsB yk ys ky s a := by
  rw [endsB_yes h hs ha, endsB_yes h' hs ha]
  exact rowI_congr fun j hj => bof_congr (he j hj)
theorem ends_len (zk : Int) (zs : ByteArray) (kids : Fr (Int × ByteArray)) (s : ByteArray) (a : Int) : (endsB zk zs kids s a).length ≤ s.size + 1 := by
  unfold endsB
  split
  · exact rowI_len _ _
  · exact Nat.zero_le _
theorem filter_one {a : Nat} {V W : Nat → Bool} : ∀ m, a < m → (∀ j, V j = true ↔ j = a ∨ W j = true) → W a = false → ((List.range m).filter V).length = ((List.range m).filter W).length + 1
  | 0, h, _, _ => absurd h (Nat.not_lt_zero _)
  | m + 1, h, hV, hW => by
    rw [List.range_succ, List.filter_append, List.filter_append, List.length_append, List.length_append]
    by_cases e : a = m
    · subst e
      have hlow : (List.range a).filter V = (List.range a).filter W := List.filter_congr fun j hj => by
        have := List.mem_range.1 hj
        cases hw : W j with
        | true => exact (hV j).2 (.inr hw)
        | false =>
          cases hv : V j with
          | false => rfl
          | true => rcases (hV j).1 hv with h | h; omega; (rw [hw] at h; cases h)
      rw [hlow, List.filter_cons_of_pos ((hV a).2 (.inl rfl)), List.filter_cons_of_neg (by rw [hW]; exact Bool.false_ne_true)]
      rfl
    · have ih := filter_one m (by omega) hV hW
      have hm : ([m].filter V).length = ([m].filter W).length := by
        cases hw : W m with
        | true => rw [List.filter_cons_of_pos ((hV m).2 (.inr hw)), List.filter_cons_of_pos hw]; rfl
        | false =>
          rw [List.filter_cons_of_neg (p := W) (by rw [hw]; exact Bool.false_ne_true), List.filter_cons_of_neg (p := V) (fun h => by rcases (hV m).1 h with h | h; omega; (rw [hw] at h; cases h))]
          rfl
      omega
theorem rel_O (s : ByteArray) : rowR s (mkFr [((1, ⟨#[97]⟩), .nil)] : Fr (Int × ByteArray)) = [oneR s 1 ⟨#[97]⟩] := rfl
theorem star_plus (s : ByteArray) (a : Nat) (ha : a ≤ s.size) (hs : s.size ≤ 200) : (endsB 6 ⟨#[]⟩ (mkFr [((1, ⟨#[97]⟩), .nil)] : Fr (Int × ByteArray)) s a).length = (endsB 7 ⟨#[]⟩ (mkFr [((1, ⟨#[97]⟩), .nil)] : Fr (Int × ByteArray)) s a).length + 1 := by
  have h6 := rexB_of (good_up (E := 3) (by omega) (good_rep 6 (.inl rfl)))
  have h7 := rexB_of (good_up (E := 3) (by omega) (good_rep 7 (.inr rfl)))
  rw [endsB_yes h6 hs ha, endsB_yes h7 hs ha]
  refine filter_one (a := a) (s.size + 1) (by omega) (fun j => ?_) ?_
  · unfold endV
    rw [bof_iff, bof_iff]
    show starR (oneR s 1 ⟨#[97]⟩) a j ↔ j = a ∨ compR (oneR s 1 ⟨#[97]⟩) (starR (oneR s 1 ⟨#[97]⟩)) a j
    constructor
    · intro h
      cases h with
      | refl => exact .inl rfl
      | step h1 h2 => exact .inr ⟨_, h1, h2⟩
    · rintro (rfl | ⟨k, h1, h2⟩)
      · exact .refl _
      · exact .step h1 h2
  · cases hb : endV 7 ⟨#[]⟩ (mkFr [((1, ⟨#[97]⟩), .nil)] : Fr (Int × ByteArray)) s a a with
    | false => rfl
    | true =>
      obtain ⟨k, h1, h2⟩ := (show compR (oneR s 1 ⟨#[97]⟩) (starR (oneR s 1 ⟨#[97]⟩)) a a from bof_iff.1 hb)
      have e1 : k = a + 1 := h1.1
      have h3 := fwd_one s 1 ⟨#[97]⟩ a k (by omega) h1
      have h4 := (fwd_one s 1 ⟨#[97]⟩).star k a h3.2 h2
      omega
theorem alt_star (s : ByteArray) (a : Nat) (ha : a ≤ s.size) (hs : s.size ≤ 200) : endsB 5 ⟨#[]⟩ (mkFr [((1, ⟨#[97]⟩), .nil), ((6, ⟨#[]⟩), mkFr [((1, ⟨#[97]⟩), .nil)])] : Fr (Int × ByteArray)) s a = endsB 6 ⟨#[]⟩ (mkFr [((1, ⟨#[97]⟩), .nil)] : Fr (Int × ByteArray)) s a := by
  refine ends_ext (rexB_of (good_up (E := 3) (by omega) good_altO)) (rexB_of (good_up (E := 3) (by omega) (good_rep 6 (.inl rfl)))) hs ha fun j _ => ?_
  show orR (orR noR (oneR s 1 ⟨#[97]⟩)) (starR (oneR s 1 ⟨#[97]⟩)) a j ↔ starR (oneR s 1 ⟨#[97]⟩) a j
  constructor
  · rintro ((h | h) | h)
    · exact h.elim
    · exact .step h (.refl _)
    · exact h
  · exact .inr
theorem star_has (s : ByteArray) (a : Nat) (ha : a ≤ s.size) (hs : s.size ≤ 200) : a ∈ endsB 6 ⟨#[]⟩ (mkFr [((1, ⟨#[97]⟩), .nil)] : Fr (Int × ByteArray)) s a :=
  (mem_ends (rexB_of (good_up (E := 3) (by omega) (good_rep 6 (.inl rfl)))) hs ha).2 (.refl _)
theorem both_has {zk yk : Int} {zs ys : ByteArray} {kids ky : Fr (Int × ByteArray)} {s : ByteArray} {a j : Nat} (h : goodR 3 zk zs kids) (h' : goodR 3 yk ys ky) (hb : rexB 5 ⟨#[]⟩ (mkFr [((zk, zs), kids), ((yk, ys), ky)] : Fr (Int × ByteArray)) = true) (hs : s.size ≤ 200) (ha : a ≤ s.size) : j ∈ endsB 5 ⟨#[]⟩ (mkFr [((zk, zs), kids), ((yk, ys), ky)] : Fr (Int × ByteArray)) s a ↔ j ∈ endsB zk zs kids s a ∨ j ∈ endsB yk ys ky s a := by
  rw [mem_ends hb hs ha, mem_ends (rexB_of h) hs ha, mem_ends (rexB_of h') hs ha]
  show orR (orR noR (relOf s zk zs (rowR s kids))) (relOf s yk ys (rowR s ky)) a j ↔ _
  constructor
  · rintro ((h | h) | h)
    · exact h.elim
    · exact .inl h
    · exact .inr h
  · rintro (h | h)
    · exact .inl (.inr h)
    · exact .inr h

end Go.Proofs.Ytdfcgnbklnceiaa
