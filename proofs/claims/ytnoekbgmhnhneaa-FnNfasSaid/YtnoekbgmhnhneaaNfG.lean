/- Runs of a machine, and what a part's nodes run to: what a regular expression's part means. No program in sight. -/
import Derived.Test.YtnoekbgmhnhneaaNmP
import Derived.Test.YtnoekbgmhnhneaaLayP
import Derived.Test.YtnoekbgmhnhneaaEndsX
namespace Go.Proofs.Ytnoekbgmhnhneaa
open Go.RowKit

section
variable (zs : List (Int × ByteArray × Int × Int)) (t : ByteArray)
/-- One step of a machine on a text. -/
inductive Stp : Int → Nat → Int → Nat → Prop
  | eps {x y : Int} {i : Nat} : 0 ≤ x → x < zs.length → y ∈ nxt zs i t.size x → Stp x i y i
  | byte {x : Int} {i : Nat} : 0 ≤ x → x < zs.length → i < t.size → ndTk (ndAt zs x) (chB t i) = true → Stp x i (ndAt zs x).2.2.1 (i + 1)
/-- So many steps. -/
inductive Run : Nat → Int → Nat → Int → Nat → Prop
  | nil {x : Int} {i : Nat} : Run 0 x i x i
  | cons {n : Nat} {x y z : Int} {i j k : Nat} : Stp zs t x i y j → Run n y j z k → Run (n + 1) x i z k
/-- Nodes stand from a place on. -/
def Sta (L : List (Int × ByteArray × Int × Int)) (p : Nat) : Prop := ∀ (q : Nat) (z : Int × ByteArray × Int × Int), L[q]? = some z → ndAt zs ((p + q : Nat) : Int) = z ∧ p + q < zs.length
/-- What stands from p to e means R. -/
structure Prt (R : Rel) (p e : Nat) : Prop where
  snd : ∀ (n i : Nat) (f : Int) (g : Nat), (f < (p : Int) ∨ (e : Int) ≤ f) → Run zs t n (p : Int) i f g → ∃ j m, m ≤ n ∧ R i j ∧ Run zs t m (e : Int) j f g
  whl : ∀ i j, i ≤ t.size → R i j → ∃ n, Run zs t n (p : Int) i (e : Int) j
  fwd : Fwd (t.size + 1) R
end
section
variable {zs : List (Int × ByteArray × Int × Int)} {t : ByteArray}
theorem Run.app : ∀ {n m : Nat} {x y z : Int} {i j k : Nat}, Run zs t n x i y j → Run zs t m y j z k → Run zs t (n + m) x i z k
  | _, m, _, _, _, _, _, _, .nil, h => by rw [Nat.zero_add]; exact h
  | _, m, _, _, _, _, _, _, .cons s r, h => by
    have := Run.cons s (r.app h)
    rwa [Nat.add_right_comm] at this
theorem Sta.left {L M : List (Int × ByteArray × Int × Int)} {p : Nat} (h : Sta zs (L ++ M) p) : Sta zs L p := fun q z hq => h q z (by
  rw [List.getElem?_append_left]
  · exact hq
  · rcases Nat.lt_or_ge q L.length with h1 | h1
    · exact h1
    · rw [List.getElem?_eq_none h1] at hq; cases hq)
theorem Sta.right {L M : List (Int × ByteArray × Int × Int)} {p : Nat} (h : Sta zs (L ++ M) p) : Sta zs M (p + L.length) := fun q z hq => by
  have := h (L.length + q) z (by rw [List.getElem?_append_right (by omega), Nat.add_sub_cancel_left]; exact hq)
  rw [← Nat.add_assoc] at this
  exact this
theorem Sta.head {z : Int × ByteArray × Int × Int} {M : List (Int × ByteArray × Int × Int)} {p : Nat} (h : Sta zs (z :: M) p) : ndAt zs (p : Int) = z ∧ p < zs.length := h 0 z rfl
theorem Sta.tail {z : Int × ByteArray × Int × Int} {M : List (Int × ByteArray × Int × Int)} {p : Nat} (h : Sta zs (z :: M) p) : Sta zs M (p + 1) := Sta.right (L := [z]) h
/-- Steps from a split. -/
theorem stp_split {x y : Int} {i j : Nat} {s : ByteArray} {a b : Int} (hz : ndAt zs x = (4, s, a, b)) (h : Stp zs t x i y j) : j = i ∧ (y = a ∨ y = b) := by
  cases h with
  | eps _ _ hn =>
    unfold nxt at hn
    rw [hz] at hn
    refine ⟨rfl, ?_⟩
    simpa using hn
  | byte _ _ _ hn =>
    rw [hz] at hn
    simp [ndTk] at hn
theorem split_stp {x : Int} {s : ByteArray} {a b : Int} (hz : ndAt zs x = (4, s, a, b)) (h0 : 0 ≤ x) (h1 : x < zs.length) (i : Nat) : Stp zs t x i a i ∧ Stp zs t x i b i :=
  ⟨.eps h0 h1 (by unfold nxt; rw [hz]; simp), .eps h0 h1 (by unfold nxt; rw [hz]; simp)⟩
theorem ndAt_split {x : Nat} {s : ByteArray} {a b : Int} (hz : ndAt zs (x : Int) = (4, s, a, b)) : x < zs.length := by
  rcases Nat.lt_or_ge x zs.length with h | h
  · exact h
  · unfold ndAt at hz
    rw [List.getD_eq_getElem?_getD, List.getElem?_eq_none (by simpa using h)] at hz
    simp at hz
/-- One behind the other. -/
theorem Prt.seq {R S : Rel} {p q e : Nat} (h : Prt zs t R p q) (k : Prt zs t S q e) (h1 : p ≤ q) (h2 : q ≤ e) : Prt zs t (compR R S) p e where
  snd n i f g hf hr := by
    obtain ⟨j, m, hm, hR, hr1⟩ := h.snd n i f g (by omega) hr
    obtain ⟨j2, m2, hm2, hS, hr2⟩ := k.snd m j f g (by omega) hr1
    exact ⟨j2, m2, by omega, ⟨j, hR, hS⟩, hr2⟩
  whl i j hi := fun ⟨c, hR, hS⟩ => by
    have := h.fwd i c (by omega) hR
    obtain ⟨n, hn⟩ := h.whl i c hi hR
    obtain ⟨m, hm⟩ := k.whl c j (by omega) hS
    exact ⟨n + m, hn.app hm⟩
  fwd := h.fwd.comp k.fwd
theorem Prt.none_ (p : Nat) : Prt zs t idR p p where
  snd n i f g _ hr := ⟨i, n, Nat.le_refl _, rfl, hr⟩
  whl i j _ h := ⟨0, by cases (show i = j from h); exact .nil⟩
  fwd := fwd_id _
/-- Either. -/
theorem Prt.alt {R S : Rel} {p q p2 b : Nat} (hz : ndAt zs (p : Int) = (4, ⟨#[]⟩, (p : Int) + 1, (p2 : Int))) (h : Prt zs t R (p + 1) q) (hq : ndAt zs (q : Int) = (4, ⟨#[]⟩, (b : Int), (b : Int))) (k : Prt zs t S p2 b) (h1 : p + 1 ≤ q) (h2 : q < p2) (h3 : p2 ≤ b) : Prt zs t (orR R S) p b where
  snd n i f g hf hr := by
    cases hr with
    | nil => omega
    | cons s r =>
      obtain ⟨rfl, rfl | rfl⟩ := stp_split hz s
      · obtain ⟨j, m, hm, hR, hr1⟩ := h.snd _ _ f g (by omega) r
        cases hr1 with
        | nil => omega
        | cons s' r' =>
          obtain ⟨rfl, rfl | rfl⟩ := stp_split hq s'
          · exact ⟨_, _, by omega, .inl hR, r'⟩
          · exact ⟨_, _, by omega, .inl hR, r'⟩
      · obtain ⟨j, m, hm, hS, hr1⟩ := k.snd _ _ f g (by omega) r
        exact ⟨j, m, by omega, .inr hS, hr1⟩
  whl i j hi hRS := by
    have hp := ndAt_split hz
    have hq' := ndAt_split hq
    rcases hRS with hR | hS
    · obtain ⟨n, hn⟩ := h.whl i j hi hR
      exact ⟨_, .cons (split_stp hz (by omega) (by omega) i).1 (Run.app hn (.cons (split_stp hq (by omega) (by omega) j).1 .nil))⟩
    · obtain ⟨n, hn⟩ := k.whl i j hi hS
      exact ⟨_, .cons (split_stp hz (by omega) (by omega) i).2 hn⟩
  fwd := h.fwd.or_ k.fwd
/-- Many times, or not at all. -/
theorem Prt.star {R : Rel} {p q e : Nat} (hz : ndAt zs (p : Int) = (4, ⟨#[]⟩, (p : Int) + 1, (e : Int))) (h : Prt zs t R (p + 1) q) (hq : ndAt zs (q : Int) = (4, ⟨#[]⟩, (p : Int), (p : Int))) (h1 : p + 1 ≤ q) (he : e = q + 1) : Prt zs t (starR R) p e where
  snd n := by
    induction n using Nat.strongRecOn with
    | _ n ih =>
      intro i f g hf hr
      cases hr with
      | nil => omega
      | cons s r =>
        obtain ⟨rfl, rfl | rfl⟩ := stp_split hz s
        · obtain ⟨j, m, hm, hR, hr1⟩ := h.snd _ _ f g (by omega) r
          cases hr1 with
          | nil => omega
          | cons s' r' =>
            obtain ⟨rfl, e' | e'⟩ := stp_split hq s'
            all_goals
              subst e'
              obtain ⟨j2, m2, hm2, hS, hr2⟩ := ih _ (by omega) _ f g hf r'
              exact ⟨j2, m2, by omega, .step hR hS, hr2⟩
        · exact ⟨_, _, by omega, .refl _, r⟩
  whl i j hi hR := by
    have hp := ndAt_split hz
    have hq' := ndAt_split hq
    induction hR with
    | refl i => exact ⟨1, .cons (split_stp hz (by omega) (by omega) i).2 .nil⟩
    | step hR _ ih =>
      have := h.fwd _ _ (by omega) hR
      obtain ⟨n, hn⟩ := h.whl _ _ hi hR
      obtain ⟨m, hm⟩ := ih (by omega)
      exact ⟨_, .cons (split_stp hz (by omega) (by omega) _).1 (Run.app hn (.cons (split_stp hq (by omega) (by omega) _).1 hm))⟩
  fwd := h.fwd.star
/-- Once or more. -/
theorem Prt.plus {R : Rel} {p q e : Nat} (h : Prt zs t R p q) (hq : ndAt zs (q : Int) = (4, ⟨#[]⟩, (p : Int), (e : Int))) (h1 : p ≤ q) (he : e = q + 1) : Prt zs t (compR R (starR R)) p e where
  snd n := by
    induction n using Nat.strongRecOn with
    | _ n ih =>
      intro i f g hf hr
      obtain ⟨j, m, hm, hR, hr1⟩ := h.snd _ _ f g (by omega) hr
      cases hr1 with
      | nil => omega
      | cons s' r' =>
        obtain ⟨rfl, rfl | rfl⟩ := stp_split hq s'
        · obtain ⟨j2, m2, hm2, ⟨c, hS, hS2⟩, hr2⟩ := ih _ (by omega) _ f g hf r'
          exact ⟨j2, m2, by omega, ⟨_, hR, .step hS hS2⟩, hr2⟩
        · exact ⟨_, _, by omega, ⟨_, hR, .refl _⟩, r'⟩
  whl i j hi := fun ⟨c, hR, hS⟩ => by
    have hq' := ndAt_split hq
    have hc := h.fwd _ _ (by omega) hR
    obtain ⟨n, hn⟩ := h.whl _ _ hi hR
    have key : ∀ c j, starR R c j → c ≤ t.size → ∃ m, Run zs t m (q : Int) c (e : Int) j := fun c j hS => by
      induction hS with
      | refl i => exact fun _ => ⟨1, .cons (split_stp hq (by omega) (by omega) i).2 .nil⟩
      | step hR _ ih =>
        intro hc
        have := h.fwd _ _ (by omega) hR
        obtain ⟨n, hn⟩ := h.whl _ _ hc hR
        obtain ⟨m, hm⟩ := ih (by omega)
        exact ⟨_, .cons (split_stp hq (by omega) (by omega) _).1 (Run.app hn hm)⟩
    have := key c j hS (by omega)
    obtain ⟨m, hm⟩ := this
    exact ⟨_, hn.app hm⟩
  fwd := h.fwd.comp h.fwd.star
/-- Once or not. -/
theorem Prt.opt {R : Rel} {p e : Nat} (hz : ndAt zs (p : Int) = (4, ⟨#[]⟩, (p : Int) + 1, (e : Int))) (h : Prt zs t R (p + 1) e) (h1 : p + 1 ≤ e) : Prt zs t (orR idR R) p e where
  snd n i f g hf hr := by
    cases hr with
    | nil => omega
    | cons s r =>
      obtain ⟨rfl, rfl | rfl⟩ := stp_split hz s
      · obtain ⟨j, m, hm, hR, hr1⟩ := h.snd _ _ f g (by omega) r
        exact ⟨j, m, by omega, .inr hR, hr1⟩
      · exact ⟨_, _, by omega, .inl rfl, r⟩
  whl i j hi hRS := by
    have hp := ndAt_split hz
    rcases hRS with hR | hS
    · cases (show i = j from hR)
      exact ⟨1, .cons (split_stp hz (by omega) (by omega) i).2 .nil⟩
    · obtain ⟨n, hn⟩ := h.whl i j hi hS
      exact ⟨_, .cons (split_stp hz (by omega) (by omega) i).1 hn⟩
  fwd := (fwd_id _).or_ h.fwd
/-- One byte. -/
theorem Prt.one {p : Nat} {k : Int} {s : ByteArray} (hk : k = 1 ∨ k = 2 ∨ k = 3) (hz : ndAt zs (p : Int) = (k, s, (p : Int) + 1, 0)) (hp : p < zs.length) : Prt zs t (oneR t k s) p (p + 1) where
  snd n i f g hf hr := by
    cases hr with
    | nil => omega
    | cons s' r =>
      cases s' with
      | eps _ _ hn =>
        unfold nxt at hn
        rw [hz] at hn
        rw [if_neg (by simp only; omega), if_neg (by simp only; omega)] at hn
        cases hn
      | byte _ _ hi hn =>
        rw [hz] at hn r
        refine ⟨_, _, Nat.le_succ _, ⟨rfl, hi, ?_⟩, r⟩
        rw [chB_get hi] at hn
        unfold ndTk at hn
        unfold takeB
        rcases hk with rfl | rfl | rfl
        · simpa using hn
        · rfl
        · simpa using hn
  whl i j _ := fun ⟨hj, hi, hb⟩ => by
    subst hj
    have : Stp zs t (p : Int) i (ndAt zs (p : Int)).2.2.1 (i + 1) := .byte (by omega) (by omega) hi (by
      rw [hz, chB_get hi]
      unfold takeB at hb
      unfold ndTk
      rcases hk with rfl | rfl | rfl
      · simpa using hb
      · rfl
      · simpa using hb)
    rw [hz] at this
    exact ⟨1, .cons this .nil⟩
  fwd := fwd_one t k s
/-- The text's begin, or its end. -/
theorem Prt.mark {p : Nat} {P : Nat → Prop} (hk : ∀ (i : Nat) (y : Int), y ∈ nxt zs i t.size (p : Int) ↔ y = (p : Int) + 1 ∧ P i) (hz : ∀ c, ndTk (ndAt zs (p : Int)) c = false) (hp : p < zs.length) : Prt zs t (fun i j => i = j ∧ P i) p (p + 1) where
  snd n i f g hf hr := by
    cases hr with
    | nil => omega
    | cons s' r =>
      cases s' with
      | eps _ _ hn =>
        obtain ⟨rfl, e⟩ := (hk _ _).1 hn
        exact ⟨_, _, Nat.le_succ _, ⟨rfl, e⟩, r⟩
      | byte _ _ hi hn =>
        rw [hz] at hn
        cases hn
  whl i j _ := fun ⟨hj, hb⟩ => by
    subst hj
    exact ⟨1, .cons (.eps (y := (p : Int) + 1) (by omega) (by omega) ((hk _ _).2 ⟨rfl, hb⟩)) .nil⟩
  fwd := fun i j hi h => by have := h.1; omega
theorem cat_from : ∀ (l : List Rel) (a : Rel) (i j : Nat), l.foldl compR a i j ↔ ∃ k, a i k ∧ l.foldl compR idR k j
  | [], a, i, j => ⟨fun h => ⟨j, h, rfl⟩, fun ⟨k, h, e⟩ => by cases (show k = j from e); exact h⟩
  | r :: l, a, i, j => by
    show l.foldl compR (compR a r) i j ↔ ∃ k, a i k ∧ l.foldl compR (compR idR r) k j
    rw [cat_from l]
    constructor
    · rintro ⟨k, ⟨m, h1, h2⟩, h3⟩
      exact ⟨m, h1, (cat_from l _ _ _).2 ⟨k, ⟨m, rfl, h2⟩, h3⟩⟩
    · rintro ⟨m, h1, h2⟩
      obtain ⟨k, ⟨m', e, h3⟩, h4⟩ := (cat_from l _ _ _).1 h2
      cases (show m = m' from e)
      exact ⟨k, ⟨m, h1, h3⟩, h4⟩
theorem cat_cons (r : Rel) (l : List Rel) : catR (r :: l) = compR r (catR l) := by
  funext i j
  refine propext ?_
  show l.foldl compR (compR idR r) i j ↔ _
  rw [cat_from l]
  constructor
  · rintro ⟨k, ⟨m, e, h⟩, h2⟩
    cases (show i = m from e)
    exact ⟨k, h, h2⟩
  · rintro ⟨k, h, h2⟩
    exact ⟨k, ⟨i, rfl, h⟩, h2⟩
theorem alt_from : ∀ (l : List Rel) (a : Rel) (i j : Nat), l.foldl orR a i j ↔ a i j ∨ l.foldl orR noR i j
  | [], a, i, j => ⟨.inl, fun h => h.elim id fun h => h.elim⟩
  | r :: l, a, i, j => by
    show l.foldl orR (orR a r) i j ↔ a i j ∨ l.foldl orR (orR noR r) i j
    rw [alt_from l, alt_from l (orR noR r)]
    constructor
    · rintro ((h | h) | h)
      · exact .inl h
      · exact .inr (.inl (.inr h))
      · exact .inr (.inr h)
    · rintro (h | (h | h) | h)
      · exact .inl (.inl h)
      · exact h.elim
      · exact .inl (.inr h)
      · exact .inr h
theorem alt_cons (r : Rel) (l : List Rel) : altR (r :: l) = orR r (altR l) := by
  funext i j
  refine propext ?_
  show l.foldl orR (orR noR r) i j ↔ _
  rw [alt_from l]
  constructor
  · rintro ((h | h) | h)
    · exact h.elim
    · exact .inl h
    · exact .inr h
  · rintro (h | h)
    · exact .inl (.inr h)
    · exact .inr h
theorem alt_one (r : Rel) : altR [r] = r := by
  rw [alt_cons]
  funext i j
  exact propext ⟨fun h => h.elim id fun h => h.elim, .inl⟩
theorem cat_one (r : Rel) : catR [r] = r := by
  rw [cat_cons]
  funext i j
  exact propext ⟨fun ⟨k, h, e⟩ => by cases (show k = j from e); exact h, fun h => ⟨j, h, rfl⟩⟩
theorem cat_hd {k : Fr (Int × ByteArray)} (h : k.len = 1) : catR (rowR t k) = hdR (rowR t k) := by
  obtain ⟨a, q, rfl⟩ := one_kid h
  exact cat_one _
/-- A part's nodes mean what the part means. -/
theorem lay_prt : ∀ {fr : Fr (Int × ByteArray)}, lOk fr = true → (∀ p, Sta zs (layF fr p) p → Prt zs t (catR (rowR t fr)) p (p + szF fr)) ∧ (fr.len ≠ 0 → ∀ p b : Nat, b = p + szF fr + 2 * (fr.len - 1) → Sta zs (layA fr p b) p → Prt zs t (altR (rowR t fr)) p b)
  | .nil, _ => ⟨fun p _ => Prt.none_ p, fun h => absurd rfl h⟩
  | .cons a k r, h => by
    have h' := h
    rw [lOk, Bool.and_eq_true, Bool.and_eq_true] at h'
    obtain ⟨⟨hh, hk⟩, hr⟩ := h'
    obtain ⟨k1, k2⟩ := lay_prt hk
    obtain ⟨r1, r2⟩ := lay_prt hr
    have hl := layR_len hh hk
    have hR : ∀ p, Sta zs (layR a k p) p → Prt zs t (relOf t a.1 a.2 (rowR t k)) p (p + szR a k) := fun p hs => by
      obtain ⟨ak, asx⟩ := a
      rcases here_parts hh with ⟨e, ek⟩ | ⟨e, ek⟩ | ⟨e, ek⟩ | ⟨e, ek⟩ | ⟨e, ek⟩ | ⟨e, ek⟩ | ⟨e, _⟩ | ⟨e, hk2⟩ | ⟨e | e | e, hk1⟩
      · simp only at e; subst e ek
        rw [layR_1] at hs
        exact Prt.one (.inl rfl) hs.head.1 hs.head.2
      · simp only at e; subst e ek
        rw [layR_2] at hs
        have := Prt.one (t := t) (.inr (.inl rfl)) hs.head.1 hs.head.2
        rw [show oneR t 2 ⟨#[]⟩ = oneR t 2 asx from rfl] at this
        exact this
      · simp only at e; subst e ek
        rw [layR_3] at hs
        exact Prt.one (.inr (.inr rfl)) hs.head.1 hs.head.2
      · simp only at e; subst e ek
        rw [layR_10] at hs
        refine Prt.mark (P := fun i => i = 0) (fun i y => ?_) (fun c => ?_) hs.head.2
        · unfold nxt
          rw [hs.head.1]
          by_cases h0 : i = 0
          · subst h0; simp
          · simp; omega
        · rw [hs.head.1]; rfl
      · simp only at e; subst e ek
        rw [layR_11] at hs
        refine Prt.mark (P := fun i => i = t.size) (fun i y => ?_) (fun c => ?_) hs.head.2
        · unfold nxt
          rw [hs.head.1]
          by_cases h0 : i = t.size
          · subst h0; simp
          · simp; omega
        · rw [hs.head.1]; rfl
      · simp only at e; subst e ek
        exact Prt.none_ p
      · simp only at e; subst e
        rw [layR_4] at hs
        exact k1 p hs
      · simp only at e; subst e
        rw [layR_5] at hs
        have hb : p + szR (5, asx) k = p + szF k + 2 * (k.len - 1) := by
          show p + (szF k + 2 * (k.len - 1)) = _
          omega
        exact k2 (by omega) p _ hb (by rw [Int.natCast_add]; exact hs)
      · simp only at e; subst e
        rw [layR_6] at hs
        have hs2 := hs.tail.right.head.1
        rw [(lay_len hk).1] at hs2
        have hS := k1 (p + 1) hs.tail.left
        rw [cat_hd hk1] at hS
        exact Prt.star hs.head.1 hS hs2 (by omega) (by show p + (szF k + 2) = _; omega)
      · simp only at e; subst e
        rw [layR_7] at hs
        have hs2 := hs.right.head.1
        rw [(lay_len hk).1] at hs2
        have hS := k1 p hs.left
        rw [cat_hd hk1] at hS
        exact Prt.plus hS hs2 (by omega) (by show p + (szF k + 1) = _; omega)
      · simp only at e; subst e
        rw [layR_8] at hs
        have hS := k1 (p + 1) hs.tail
        rw [cat_hd hk1, show p + 1 + szF k = p + szR (8, asx) k by show _ = p + (szF k + 1); omega] at hS
        exact Prt.opt hs.head.1 hS (by show _ ≤ p + (szF k + 1); omega)
    refine ⟨fun p hs => ?_, fun _ p b hb hs => ?_⟩
    · rw [layF_cons] at hs
      have hs2 := hs.right
      rw [hl] at hs2
      show Prt zs t (catR (relOf t a.1 a.2 (rowR t k) :: rowR t r)) p _
      rw [cat_cons, szF_cons, ← Nat.add_assoc]
      exact (hR p hs.left).seq (r1 _ hs2) (by omega) (by omega)
    · show Prt zs t (altR (relOf t a.1 a.2 (rowR t k) :: rowR t r)) p _
      by_cases h0 : r.len = 0
      · have e : r = .nil := by
          cases r with
          | nil => rfl
          | cons b l t => simp [Fr.len] at h0
        subst e
        rw [layA_last] at hs
        rw [show rowR t (.nil : Fr (Int × ByteArray)) = [] from rfl, alt_one]
        have : b = p + szR a k := by rw [hb, szF_cons]; simp [szF, Fr.len]
        rw [this]
        exact hR p hs
      · rw [layA_cons _ _ _ _ _ h0] at hs
        rw [alt_cons]
        have hb2 : b = (p + szR a k + 2) + szF r + 2 * (r.len - 1) := by
          rw [hb, szF_cons]
          simp only [Fr.len]
          omega
        have e2 := hs.tail.right
        rw [hl] at e2
        have e3 := e2.tail
        rw [show p + 1 + szR a k + 1 = p + szR a k + 2 by omega] at e3
        have hz := hs.head.1
        refine Prt.alt (q := p + 1 + szR a k) (p2 := p + szR a k + 2) ?_ (hR _ hs.tail.left) ?_ (r2 h0 _ b hb2 e3) (by omega) (by omega) (by omega)
        · rw [hz]
          congr 3
          omega
        · exact e2.head.1
end

end Go.Proofs.Ytnoekbgmhnhneaa
