/- Marking a row of trees (mkd), and what of it stands while it is marked. No program in sight. -/
import Derived.Test.YtdfcgnbklnceiaaDj
import Derived.Test.YtdfcgnbklnceiaaMarkText
namespace Go.Proofs.Ytdfcgnbklnceiaa
open Go.RowKit

/-- The row marked from k on. -/
def mkd : Nat → Fr (Int × ByteArray) → Fr (Int × ByteArray)
  | _, .nil => .nil
  | k, .cons _ kids rest => .cons ((k : Int), mtS (k + 1)) (mkd (k + 2) kids) (mkd (k + 2 + 2 * kids.size) rest)
theorem mkd_len : ∀ (k : Nat) (fr : Fr (Int × ByteArray)), (mkd k fr).len = fr.len
  | _, .nil => rfl
  | k, .cons _ kids rest => by show (mkd _ rest).len + 1 = rest.len + 1; rw [mkd_len _ rest]
/-- The mark at place q. -/
def kAt : Fr (Int × ByteArray) → Nat → Nat → Nat
  | _, k, 0 => k
  | .nil, k, _ + 1 => k
  | .cons _ kids r, k, q + 1 => kAt r (k + 2 + 2 * kids.size) q
theorem kAt_zero (fr : Fr (Int × ByteArray)) (k : Nat) : kAt fr k 0 = k := by cases fr <;> rfl
theorem kAt_all : ∀ (fr : Fr (Int × ByteArray)) (k q : Nat), kAt fr k q + 2 * (fr.drop q).size = k + 2 * fr.size
  | fr, k, 0 => by rw [kAt_zero, Fr.drop_zero]
  | .nil, k, q + 1 => rfl
  | .cons _ kids r, k, q + 1 => by
    have := kAt_all r (k + 2 + 2 * kids.size) q
    show kAt r _ q + 2 * (r.drop q).size = _
    rw [this]
    simp only [Fr.size]
    omega
theorem kAt_succ : ∀ {fr : Fr (Int × ByteArray)} {k q : Nat} {a : Int × ByteArray} {kids : Fr (Int × ByteArray)}, fr.drop q = .cons a kids (fr.drop (q + 1)) → kAt fr k (q + 1) = kAt fr k q + 2 + 2 * kids.size
  | .nil, k, 0, _, _, h => by rw [Fr.drop_zero] at h; cases h
  | .nil, k, q + 1, _, _, h => by cases h
  | .cons _ kids r, k, 0, _, _, h => by
    rw [Fr.drop_zero] at h
    injection h with _ h _
    subst h
    show kAt r _ 0 = _
    rw [kAt_zero]
    rfl
  | .cons _ _ r, k, q + 1, _, _, h => kAt_succ (fr := r) h
theorem mkd_drop : ∀ (fr : Fr (Int × ByteArray)) (k q : Nat), (mkd k fr).drop q = mkd (kAt fr k q) (fr.drop q)
  | fr, k, 0 => by rw [Fr.drop_zero, Fr.drop_zero, kAt_zero]
  | .nil, k, q + 1 => rfl
  | .cons _ kids r, k, q + 1 => mkd_drop r _ q
/-- The first q places are marked. -/
def mix : Nat → Nat → Fr (Int × ByteArray) → Fr (Int × ByteArray)
  | 0, _, fr => fr
  | _ + 1, _, .nil => .nil
  | q + 1, k, .cons _ kids rest => .cons ((k : Int), mtS (k + 1)) (mkd (k + 2) kids) (mix q (k + 2 + 2 * kids.size) rest)
theorem mix_len : ∀ (q k : Nat) (fr : Fr (Int × ByteArray)), (mix q k fr).len = fr.len
  | 0, _, _ => rfl
  | _ + 1, _, .nil => rfl
  | q + 1, k, .cons _ kids rest => by show (mix q _ rest).len + 1 = rest.len + 1; rw [mix_len q _ rest]
theorem mix_drop : ∀ (q k : Nat) (fr : Fr (Int × ByteArray)) (j : Nat), q ≤ j → (mix q k fr).drop j = fr.drop j
  | 0, _, _, _, _ => rfl
  | _ + 1, _, .nil, _, _ => rfl
  | q + 1, k, .cons _ kids rest, 0, h => by omega
  | q + 1, k, .cons _ kids rest, j + 1, h => mix_drop q _ rest j (by omega)
theorem mix_all : ∀ (fr : Fr (Int × ByteArray)) (k : Nat), mix fr.len k fr = mkd k fr
  | .nil, _ => rfl
  | .cons _ kids rest, k => by
    show Fr.cons _ _ (mix rest.len _ rest) = _
    rw [mix_all rest]
    rfl
def setAt : Nat → (Int × ByteArray) → Fr (Int × ByteArray) → Fr (Int × ByteArray) → Fr (Int × ByteArray)
  | _, _, _, .nil => .nil
  | 0, a, k, .cons _ _ r => .cons a k r
  | q + 1, a, k, .cons b l r => .cons b l (setAt q a k r)
theorem mix_succ : ∀ (q k : Nat) (fr : Fr (Int × ByteArray)) (a : Int × ByteArray) (kids : Fr (Int × ByteArray)), fr.drop q = .cons a kids (fr.drop (q + 1)) → mix (q + 1) k fr = setAt q ((kAt fr k q : Int), mtS (kAt fr k q + 1)) (mkd (kAt fr k q + 2) kids) (mix q k fr)
  | 0, k, .nil, _, _, h => by rw [Fr.drop_zero] at h; cases h
  | q + 1, k, .nil, _, _, h => by cases h
  | 0, k, .cons b l r, a, kids, h => by
    rw [Fr.drop_zero] at h
    injection h with _ h _
    subst h
    rw [kAt_zero]
    rfl
  | q + 1, k, .cons b l r, a, kids, h => by
    have := mix_succ q (k + 2 + 2 * l.size) r a kids h
    show Fr.cons _ _ (mix (q + 1) _ r) = Fr.cons _ _ (setAt q _ _ (mix q _ r))
    rw [this]
    rfl
section
variable {w w' : World}
theorem DjIn.keep2 : ∀ (fr : Fr (Int × ByteArray)) (b off : Nat) (F : List Nat), (∀ o, off ≤ o → w'.cell? ⟨b, o, none⟩ = w.cell? ⟨b, o, none⟩ ∧ w'.frozen? ⟨b, o, none⟩ = w.frozen? ⟨b, o, none⟩) → (∀ k ∈ F, w'.heap[k]? = w.heap[k]?) → DjIn w fr b off F → DjIn w' fr b off F
  | .nil, _, _, _, _, _, h => h
  | .cons a kids rest, b, off, F, hb, hk, h => by
    obtain ⟨F1, F2, A, c, rfl, hc, h0, h1, h2⟩ := h
    refine ⟨F1, F2, A, c, rfl, fun j u hu => ?_, h0, fun hp => ?_, DjIn.keep2 rest b _ F2 (fun o ho => hb o (by omega)) (fun k h => hk k (List.mem_append_right F1 h)) h2⟩
    · have := hb (off + j) (by omega)
      exact ⟨this.1.trans (hc j u hu).1, this.2.trans (hc j u hu).2⟩
    · obtain ⟨b', F', e1, rfl, h3⟩ := h1 hp
      exact ⟨b', F', e1, rfl, DjIn.keep kids b' 0 F' (fun k h => hk k (List.mem_append_left F2 (List.mem_cons.2 h))) h3⟩
/-- The place i of a row, and the row with another tree at that place. -/
theorem DjIn.upd : ∀ (T : Fr (Int × ByteArray)) (i b off : Nat) (F : List Nat), i < T.len → DjIn w T b off F →
    ∃ (a : Int × ByteArray) (kids : Fr (Int × ByteArray)) (A : Option Addr) (c : Nat) (Fa F1 Fb : List Nat), T.drop i = .cons a kids (T.drop (i + 1)) ∧ F = Fa ++ (F1 ++ Fb) ∧
      (∀ j u, (rexC a ++ [Value.slice A kids.len c])[j]? = some u → w.cell? ⟨b, off + i * 3 + j, none⟩ = some u ∧ w.frozen? ⟨b, off + i * 3 + j, none⟩ = false) ∧ DjT w A kids F1 ∧
      ∀ (w' : World) (a' : Int × ByteArray) (kids' : Fr (Int × ByteArray)), kids'.len = kids.len → (∀ j u, (rexC a' ++ [Value.slice A kids.len c])[j]? = some u → w'.cell? ⟨b, off + i * 3 + j, none⟩ = some u ∧ w'.frozen? ⟨b, off + i * 3 + j, none⟩ = false) → DjT w' A kids' F1 →
        (∀ o, o < off + i * 3 ∨ off + i * 3 + 3 ≤ o → w'.cell? ⟨b, o, none⟩ = w.cell? ⟨b, o, none⟩ ∧ w'.frozen? ⟨b, o, none⟩ = w.frozen? ⟨b, o, none⟩) → (∀ k, k ∈ Fa ∨ k ∈ Fb → w'.heap[k]? = w.heap[k]?) → DjIn w' (setAt i a' kids' T) b off F
  | .nil, i, _, _, _, h, _ => absurd h (Nat.not_lt_zero _)
  | .cons a kids r, 0, b, off, F, _, h => by
    obtain ⟨F1, F2, A, c, rfl, hc, h0, h1, h2⟩ := h
    refine ⟨a, kids, A, c, [], F1, F2, by rw [Fr.drop_zero]; show _ = Fr.cons a kids (r.drop 0); rw [Fr.drop_zero], rfl, fun j u hu => by rw [Nat.zero_mul, Nat.add_zero]; exact hc j u hu, ⟨h0, h1⟩, fun w' a' kids' hl hc' hd ho hk => ?_⟩
    simp only [Nat.zero_mul, Nat.add_zero] at hc' ho
    refine ⟨F1, F2, A, c, rfl, fun j u hu => hc' j u (by rw [← hl]; exact hu), fun h => hd.1 h, fun h => hd.2 h, DjIn.keep2 r b _ F2 (fun o h => ho o (.inr h)) (fun k h => hk k (.inr h)) h2⟩
  | .cons a kids r, i + 1, b, off, F, hi, h => by
    obtain ⟨G1, G2, A0, c0, rfl, hc0, h0, h1, h2⟩ := h
    obtain ⟨a1, k1, A, c, Fa, F1, Fb, e1, rfl, e3, e4, e5⟩ := DjIn.upd r i b (off + 3) G2 (by simpa [Fr.len] using hi) h2
    have ho3 : off + (i + 1) * 3 = off + 3 + i * 3 := by omega
    refine ⟨a1, k1, A, c, G1 ++ Fa, F1, Fb, e1, by rw [List.append_assoc], fun j u hu => by rw [ho3]; exact e3 j u hu, e4, fun w' a' kids' hl hc' hd ho hk => ?_⟩
    rw [ho3] at ho
    refine ⟨G1, Fa ++ (F1 ++ Fb), A0, c0, rfl, fun j u hu => ?_, h0, fun hp => ?_, e5 w' a' kids' hl (fun j u hu => by rw [← ho3]; exact hc' j u hu) hd (fun o h => ho o h) (fun k h => hk k (h.imp (List.mem_append_right G1) id))⟩
    · have hj : j < 3 := by
        rcases Nat.lt_or_ge j 3 with h | h
        · exact h
        · rw [show (rexC a ++ [Value.slice A0 kids.len c0])[j]? = none from List.getElem?_eq_none h] at hu; cases hu
      have := ho (off + j) (by omega)
      exact ⟨this.1.trans (hc0 j u hu).1, this.2.trans (hc0 j u hu).2⟩
    · obtain ⟨b', F', q1, rfl, q3⟩ := h1 hp
      exact ⟨b', F', q1, rfl, DjIn.keep kids b' 0 F' (fun k h => hk k (.inl (List.mem_append_left Fa (List.mem_cons.2 h)))) q3⟩
/-- Outside of some blocks all is as it was. -/
structure MkD (F : List Nat) (w w' : World) : Prop where
  os : w'.os = w.os
  tape : w'.tape = w.tape
  output : w'.output = w.output
  size : w.heap.size ≤ w'.heap.size
  block : ∀ k, k < w.heap.size → k ∉ F → w'.heap[k]? = w.heap[k]?
theorem MkD.refl (F : List Nat) (w : World) : MkD F w w := ⟨rfl, rfl, rfl, Nat.le_refl _, fun _ _ _ => rfl⟩
theorem MkD.trans {F : List Nat} {a b c : World} (h : MkD F a b) (k : MkD F b c) : MkD F a c :=
  ⟨k.os.trans h.os, k.tape.trans h.tape, k.output.trans h.output, Nat.le_trans h.size k.size, fun i h1 h2 => (k.block i (Nat.lt_of_lt_of_le h1 h.size) h2).trans (h.block i h1 h2)⟩
theorem MkD.below {F : List Nat} (h : Below w.heap.size w w') : MkD F w w' := ⟨h.os, h.tape, h.output, h.size, fun k h1 _ => h.block k h1⟩
theorem MkD.set {F : List Nat} {b o : Nat} {u : Value} (hb : b ∈ F) : MkD F w (w.setCell ⟨b, o, none⟩ u) :=
  ⟨rfl, rfl, rfl, by simp, fun k _ h => Below.heap_setCell w ⟨b, o, none⟩ u k (fun e => h (by rw [e]; exact hb))⟩
theorem MkD.sub {F G : List Nat} (h : MkD F w w') (hs : ∀ k ∈ F, k ∈ G) : MkD G w w' := ⟨h.os, h.tape, h.output, h.size, fun k h1 h2 => h.block k h1 (fun h3 => h2 (hs k h3))⟩
theorem MkD.bl {F : List Nat} {B : Nat} (h : MkD F w w') (hB : B ≤ w.heap.size) (hF : ∀ k ∈ F, B ≤ k) : Below B w w' := ⟨h.os, h.tape, h.output, h.size, fun k hk => h.block k (by omega) (fun h3 => by have := hF k h3; omega)⟩
end

end Go.Proofs.Ytdfcgnbklnceiaa
