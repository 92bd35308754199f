/- What a machine's nodes reach without a byte. No program in sight. -/
import Derived.Test.YtnoekbgmhnhneaaOnP
namespace Go.Proofs.Ytnoekbgmhnhneaa
open Go.RowKit

/-- Where a node goes on without a byte, at a place a of a text of s bytes. -/
def nxt (zs : List (Int × ByteArray × Int × Int)) (a s : Int) (k : Int) : List Int := if (ndAt zs k).1 = 4 then [(ndAt zs k).2.2.1, (ndAt zs k).2.2.2] else if ((ndAt zs k).1 = 5 ∧ a = 0) ∨ ((ndAt zs k).1 = 6 ∧ a = s) then [(ndAt zs k).2.2.1] else []
/-- It is reached from a row's numbers. -/
inductive Rch (zs : List (Int × ByteArray × Int × Int)) (a s : Int) (l : List Int) : Int → Prop
  | base {k : Int} : k ∈ l → inI k 0 ((zs.length : Int) - 1) = true → Rch zs a s l k
  | step {k j : Int} : Rch zs a s l k → j ∈ nxt zs a s k → Rch zs a s l j
/-- The rising row of what is reached. -/
def SprR (zs : List (Int × ByteArray × Int × Int)) (a s : Int) (l R : List Int) : Prop := Ris R ∧ ∀ x, x ∈ R ↔ Rch zs a s l x
theorem SprR.same {zs : List (Int × ByteArray × Int × Int)} {a s : Int} {l R S : List Int} (h : SprR zs a s l R) (k : SprR zs a s l S) : R = S := ris_same h.1 k.1 fun x => (h.2 x).trans (k.2 x).symm
/-- A rising row in another is not longer, and the same where it is as long. -/
theorem ris_sub : ∀ {R S : List Int}, Ris R → Ris S → (∀ x, x ∈ R → x ∈ S) → R.length ≤ S.length ∧ (S.length ≤ R.length → R = S)
  | [], [], _, _, _ => ⟨Nat.le_refl _, fun _ => rfl⟩
  | [], y :: S, _, _, _ => ⟨Nat.zero_le _, fun h => absurd h (by simp)⟩
  | x :: R, [], _, _, h => absurd (h x (List.mem_cons_self ..)) (by simp)
  | x :: R, y :: S, hR, hS, h => by
    obtain ⟨h1, h2⟩ := List.pairwise_cons.1 hR
    obtain ⟨g1, g2⟩ := List.pairwise_cons.1 hS
    rcases List.mem_cons.1 (h x (List.mem_cons_self ..)) with e | e
    · subst e
      obtain ⟨i1, i2⟩ := ris_sub h2 g2 fun z hz => (List.mem_cons.1 (h z (List.mem_cons_of_mem _ hz))).resolve_left fun e => by
        have := h1 z hz
        omega
      exact ⟨by simp only [List.length_cons]; omega, fun hl => congrArg (x :: ·) (i2 (by simp only [List.length_cons] at hl; omega))⟩
    · have hxy := g1 x e
      obtain ⟨i1, _⟩ := ris_sub hR g2 fun z hz => (List.mem_cons.1 (h z hz)).resolve_left fun e2 => by
        rcases List.mem_cons.1 hz with e3 | e3
        · omega
        · have := h1 z e3
          omega
      simp only [List.length_cons] at i1 ⊢
      exact ⟨by omega, fun hl => by omega⟩
/-- While the reference adds what is reached by one node more. -/
def SpI (zs : List (Int × ByteArray × Int × Int)) (a s : Int) (l R : List Int) : Prop := Ris R ∧ (∀ x, x ∈ R → Rch zs a s l x) ∧ ∀ x, x ∈ l → inI x 0 ((zs.length : Int) - 1) = true → x ∈ R
/-- One round of it. -/
def SpN (zs : List (Int × ByteArray × Int × Int)) (a s : Int) (R S : List Int) : Prop := Ris S ∧ ∀ x, x ∈ S ↔ x ∈ R ∨ ∃ k, k ∈ R ∧ x ∈ nxt zs a s k
theorem SpI.next {zs : List (Int × ByteArray × Int × Int)} {a s : Int} {l R S : List Int} (h : SpI zs a s l R) (k : SpN zs a s R S) : SpI zs a s l S := by
  refine ⟨k.1, fun x hx => ?_, fun x hx hi => (k.2 x).2 (.inl (h.2.2 x hx hi))⟩
  rcases (k.2 x).1 hx with hx | ⟨j, hj, hn⟩
  · exact h.2.1 x hx
  · exact .step (h.2.1 j hj) hn
theorem SpN.le {zs : List (Int × ByteArray × Int × Int)} {a s : Int} {l R S : List Int} (h : SpI zs a s l R) (k : SpN zs a s R S) : R.length ≤ S.length := (ris_sub h.1 k.1 fun x hx => (k.2 x).2 (.inl hx)).1
theorem SpI.done {zs : List (Int × ByteArray × Int × Int)} {a s : Int} {l R S : List Int} (h : SpI zs a s l R) (k : SpN zs a s R S) (hl : ¬ R.length < S.length) : SprR zs a s l S := by
  obtain rfl := (ris_sub h.1 k.1 fun x hx => (k.2 x).2 (.inl hx)).2 (by omega)
  refine ⟨h.1, fun x => ⟨h.2.1 x, fun hx => ?_⟩⟩
  induction hx with
  | base h1 h2 => exact h.2.2 _ h1 h2
  | step _ hn ih => exact (k.2 _).2 (.inr ⟨_, ih, hn⟩)
/-- What a program's visit does to the nodes met: those met anew are reached from k, and what they go on to is met. -/
def Vis (zs : List (Int × ByteArray × Int × Int)) (a s : Int) (k : Int) (M M' : Int → Prop) : Prop := (∀ x, M x → M' x) ∧ M' k ∧ (∀ x, M' x → M x ∨ Rch zs a s [k] x) ∧ ∀ x, M' x → ¬ M x → ∀ j, j ∈ nxt zs a s x → M' j
theorem Rch.of {zs : List (Int × ByteArray × Int × Int)} {a s : Int} {l : List Int} {k x : Int} (hk : Rch zs a s l k) (h : Rch zs a s [k] x) : Rch zs a s l x := by
  induction h with
  | base h1 _ => obtain rfl := List.mem_singleton.1 h1; exact hk
  | step _ hn ih => exact .step ih hn
theorem Vis.old {zs : List (Int × ByteArray × Int × Int)} {a s : Int} {k : Int} {M : Int → Prop} (h : M k) : Vis zs a s k M M := ⟨fun _ h => h, h, fun _ h => .inl h, fun _ h n => absurd h n⟩
/-- The nodes met behind all of a row's numbers are those that are reached. -/
def VisAll (zs : List (Int × ByteArray × Int × Int)) (a s : Int) (l : List Int) (M : Int → Prop) : Prop := (∀ x, x ∈ l → inI x 0 ((zs.length : Int) - 1) = true → M x) ∧ (∀ x, M x → Rch zs a s l x) ∧ ∀ x, M x → ∀ j, j ∈ nxt zs a s x → M j
theorem VisAll.iff {zs : List (Int × ByteArray × Int × Int)} {a s : Int} {l : List Int} {M : Int → Prop} (h : VisAll zs a s l M) (x : Int) : M x ↔ Rch zs a s l x := by
  refine ⟨h.2.1 x, fun hx => ?_⟩
  induction hx with
  | base h1 h2 => exact h.1 _ h1 h2
  | step _ hn ih => exact h.2.2 _ ih _ hn
theorem VisAll.nil (zs : List (Int × ByteArray × Int × Int)) (a s : Int) : VisAll zs a s [] (fun _ => False) := by
  unfold VisAll
  refine ⟨fun x h => ?_, fun x h => False.elim h, fun x h => False.elim h⟩
  cases h
theorem VisAll.skip {zs : List (Int × ByteArray × Int × Int)} {a s : Int} {l : List Int} {k : Nat} {M : Int → Prop} (hk : k < l.length) (h : VisAll zs a s (l.take k) M) (hn : inI l[k] 0 ((zs.length : Int) - 1) = false) : VisAll zs a s (l.take (k + 1)) M := by
  have e := List.take_succ_eq_append_getElem hk
  refine ⟨fun x hx hi => ?_, fun x hx => ?_, h.2.2⟩
  · rw [e, List.mem_append, List.mem_singleton] at hx
    rcases hx with hx | rfl
    · exact h.1 x hx hi
    · rw [hn] at hi
      cases hi
  · rw [e]
    have := h.2.1 x hx
    induction this with
    | base h1 h2 => exact .base (List.mem_append_left _ h1) h2
    | step h1 hn ih => exact .step (ih ((h.iff _).2 h1)) hn
theorem VisAll.put {zs : List (Int × ByteArray × Int × Int)} {a s : Int} {l : List Int} {k : Nat} {M M' : Int → Prop} (hk : k < l.length) (h : VisAll zs a s (l.take k) M) (hi : inI l[k] 0 ((zs.length : Int) - 1) = true) (hv : Vis zs a s l[k] M M') : VisAll zs a s (l.take (k + 1)) M' := by
  have e := List.take_succ_eq_append_getElem hk
  have hw : ∀ x, Rch zs a s (l.take k) x → Rch zs a s (l.take (k + 1)) x := fun x hx => by
    rw [e]
    induction hx with
    | base h1 h2 => exact .base (List.mem_append_left _ h1) h2
    | step _ hn ih => exact .step ih hn
  have hb : Rch zs a s (l.take (k + 1)) l[k] := .base (by rw [e]; exact List.mem_append_right _ (List.mem_singleton.2 rfl)) hi
  refine ⟨fun x hx hxi => ?_, fun x hx => ?_, fun x hx j hj => ?_⟩
  · rw [e, List.mem_append, List.mem_singleton] at hx
    rcases hx with hx | rfl
    · exact hv.1 x (h.1 x hx hxi)
    · exact hv.2.1
  · rcases hv.2.2.1 x hx with hx | hx
    · exact hw x (h.2.1 x hx)
    · exact .of hb hx
  · by_cases hm : M x
    · exact hv.1 j (h.2.2 x hm j hj)
    · exact hv.2.2.2 x hx hm j hj

end Go.Proofs.Ytnoekbgmhnhneaa
