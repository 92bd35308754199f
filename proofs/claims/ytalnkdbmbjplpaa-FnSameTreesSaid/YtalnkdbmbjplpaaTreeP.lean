/- Rows of trees built by append: the blocks of what lies within satisfy P; a row of labels and trees (Fit, mkFr). No program in sight. -/
import Derived.Test.YtalnkdbmbjplpaaTree
namespace Go.Proofs.Ytalnkdbmbjplpaa
open Go.RowKit

section
variable {α : Type} (f : α → List Value) (w : World) (P : Nat → Prop)
/-- The row's cells stand behind block b's place off; the blocks of all that lies within satisfy P. -/
def FrP : Fr α → Nat → Nat → Prop
  | .nil, _, _ => True
  | .cons a kids rest, b, off =>
    (∃ A c, (∀ j u, (f a ++ [Value.slice A kids.len c])[j]? = some u → w.cell? ⟨b, off + j, none⟩ = some u) ∧
      (0 < kids.len → ∃ b' o', A = some ⟨b', o', none⟩ ∧ P b' ∧ FrP kids b' o')) ∧
    FrP rest b (off + ((f a).length + 1))
/-- A slice value that holds the row. -/
def SlP (A : Option Addr) (fr : Fr α) : Prop := 0 < fr.len → ∃ b o, A = some ⟨b, o, none⟩ ∧ P b ∧ FrP f w P fr b o
end
section
variable {α : Type} {f : α → List Value} {w w' : World} {P P' : Nat → Prop} {lo hi : Nat}
theorem FrP.keep (hk : ∀ p : Addr, P p.block → w'.cell? p = w.cell? p) (hP : ∀ b, P b → P' b) : ∀ (fr : Fr α) (b off : Nat), P b → FrP f w P fr b off → FrP f w' P' fr b off
  | .nil, _, _, _, _ => trivial
  | .cons a kids rest, b, off, h1, h => by
    obtain ⟨⟨A, c, hc, hk'⟩, hr⟩ := h
    refine ⟨⟨A, c, fun j u hu => (hk ⟨b, off + j, none⟩ h1).trans (hc j u hu), fun hp => ?_⟩, FrP.keep hk hP rest b _ h1 hr⟩
    obtain ⟨b', o', e, q1, hi2⟩ := hk' hp
    exact ⟨b', o', e, hP b' q1, FrP.keep hk hP kids b' o' q1 hi2⟩
theorem SlP.keep {A : Option Addr} {fr : Fr α} (h : SlP f w P A fr) (hk : ∀ p : Addr, P p.block → w'.cell? p = w.cell? p) (hP : ∀ b, P b → P' b) : SlP f w' P' A fr := fun hp => by
  obtain ⟨b, o, e, h1, h3⟩ := h hp
  exact ⟨b, o, e, hP b h1, FrP.keep hk hP fr b o h1 h3⟩
theorem FrIn.toP : ∀ (fr : Fr α) (b off : Nat), FrIn f w lo hi fr b off → FrP f w (fun b => lo ≤ b ∧ b < hi) fr b off
  | .nil, _, _, _ => trivial
  | .cons a kids rest, b, off, h => by
    obtain ⟨⟨A, c, hc, hk'⟩, hr⟩ := h
    refine ⟨⟨A, c, hc, fun hp => ?_⟩, FrIn.toP rest b _ hr⟩
    obtain ⟨b', o', e, q1, q2, q3⟩ := hk' hp
    exact ⟨b', o', e, ⟨q1, q2⟩, FrIn.toP kids b' o' q3⟩
theorem Sl.toP {A : Option Addr} {fr : Fr α} (h : Sl f w lo hi A fr) : SlP f w (fun b => lo ≤ b ∧ b < hi) A fr := fun hp => by
  obtain ⟨b, o, e, h1, h2, h3⟩ := h hp
  exact ⟨b, o, e, ⟨h1, h2⟩, FrIn.toP fr b o h3⟩
theorem FrP.to (hP : ∀ b, P b → lo ≤ b ∧ b < hi) : ∀ (fr : Fr α) (b off : Nat), FrP f w P fr b off → FrIn f w lo hi fr b off
  | .nil, _, _, _ => trivial
  | .cons a kids rest, b, off, h => by
    obtain ⟨⟨A, c, hc, hk'⟩, hr⟩ := h
    refine ⟨⟨A, c, hc, fun hp => ?_⟩, FrP.to hP rest b _ hr⟩
    obtain ⟨b', o', e, q1, q3⟩ := hk' hp
    exact ⟨b', o', e, (hP b' q1).1, (hP b' q1).2, FrP.to hP kids b' o' q3⟩
theorem SlP.to {A : Option Addr} {fr : Fr α} (h : SlP f w P A fr) (hP : ∀ b, P b → lo ≤ b ∧ b < hi) : Sl f w lo hi A fr := fun hp => by
  obtain ⟨b, o, e, h1, h3⟩ := h hp
  exact ⟨b, o, e, (hP b h1).1, (hP b h1).2, FrP.to hP fr b o h3⟩
/-- The row of a list of labels and trees. -/
def mkFr : List (α × Fr α) → Fr α
  | [] => .nil
  | x :: r => .cons x.1 x.2 (mkFr r)
theorem mkFr_len : ∀ L : List (α × Fr α), (mkFr L).len = L.length
  | [] => rfl
  | x :: r => by show (mkFr r).len + 1 = _; rw [mkFr_len r]; rfl
theorem mkFr_drop : ∀ (L : List (α × Fr α)) (i : Nat), (mkFr L).drop i = mkFr (L.drop i)
  | L, 0 => by rw [Fr.drop_zero]; rfl
  | [], i + 1 => rfl
  | x :: r, i + 1 => mkFr_drop r i
/-- A list of labels and slices is that of labels and trees. -/
def Fit (f : α → List Value) (w : World) (P : Nat → Prop) (L : List (α × Fr α)) (l : List (α × Value)) : Prop :=
  l.length = L.length ∧ ∀ i (h : i < L.length), ∃ A c, l[i]? = some (L[i].1, .slice A L[i].2.len c) ∧ SlP f w P A L[i].2
theorem Fit.nil (f : α → List Value) (w : World) (P : Nat → Prop) : Fit f w P [] [] := ⟨rfl, fun _ h => absurd h (Nat.not_lt_zero _)⟩
theorem Fit.keep {L : List (α × Fr α)} {l : List (α × Value)} (h : Fit f w P L l) (hk : ∀ p : Addr, P p.block → w'.cell? p = w.cell? p) (hP : ∀ b, P b → P' b) : Fit f w' P' L l :=
  ⟨h.1, fun i hi => by
    obtain ⟨A, c, h1, h2⟩ := h.2 i hi
    exact ⟨A, c, h1, h2.keep hk hP⟩⟩
theorem Fit.snoc {L : List (α × Fr α)} {l : List (α × Value)} (h : Fit f w P L l) {a : α} {kids : Fr α} {A : Option Addr} {c : Nat} (hS : SlP f w P A kids) : Fit f w P (L ++ [(a, kids)]) (l ++ [(a, .slice A kids.len c)]) := by
  refine ⟨by rw [List.length_append, List.length_append, h.1]; rfl, fun i hi => ?_⟩
  rcases Nat.lt_or_ge i L.length with h1 | h1
  · obtain ⟨A', c', h2, h3⟩ := h.2 i h1
    refine ⟨A', c', ?_, ?_⟩
    · rw [List.getElem?_append_left (by rw [h.1]; exact h1), List.getElem_append_left h1]
      exact h2
    · rw [List.getElem_append_left h1]
      exact h3
  · have e : i = L.length := by rw [List.length_append] at hi; have : [(a, kids)].length = 1 := rfl; omega
    subst e
    refine ⟨A, c, ?_, ?_⟩
    · rw [List.getElem?_append_right (by rw [h.1]; exact Nat.le_refl _), h.1, Nat.sub_self, List.getElem_append_right (Nat.le_refl _)]
      simp
    · rw [List.getElem_append_right (Nat.le_refl _)]
      simpa using hS
theorem Fit.fits {L : List (α × Fr α)} {l : List (α × Value)} (h : Fit f w P L l) (hP : ∀ b, P b → lo ≤ b ∧ b < hi) : FitsK f w lo hi (mkFr L) l (mkFr L).len := fun i hi0 => by
  rw [mkFr_len] at hi0
  obtain ⟨A, c, h1, h2⟩ := h.2 i hi0
  refine ⟨L[i].1, L[i].2, A, c, ?_, h1, h2.to hP⟩
  rw [mkFr_drop, mkFr_drop, List.drop_eq_getElem_cons hi0]
  rfl
/-- A row of the call's own holds the trees. -/
theorem row_of_fit {m : Nat} {e : TypeId} {v : Value} {L : List (α × Fr α)} {l : List (α × Value)} (hR : Row w lo hi e m v l.length (flat (rC f) l)) (h : Fit f w P L l) (hP : ∀ b, P b → lo ≤ b ∧ b < hi) : ∃ A c, v = .slice A (mkFr L).len c ∧ Sl f w lo hi A (mkFr L) := by
  obtain ⟨A, c, rfl⟩ := hR.form
  have hl : l.length = (mkFr L).len := by rw [mkFr_len, h.1]
  refine ⟨A, c, by rw [hl], fun hp => ?_⟩
  obtain ⟨g, rfl, h1, _⟩ := own_blk hR.1 (by omega)
  refine ⟨g, 0, rfl, h1, hR.2 g rfl, FrIn.of_fits (mkFr L) l g 0 hl (h.fits hP) (fun j u hu => ?_)⟩
  have := hR.1.cells rfl j u hu
  rw [add_plain] at this
  exact this
end
theorem wpList_pushB {P : Program} {w : World} {ops : Array Oper} {rest : List Oper} {o : Oper} {a : Act} {Q : Exit → Act → World → Prop} (hgd : o.guard = none) (s x : Operand) (t : TypeId)
    (ho : o.op = .call { callee := .builtin .append, args := #[s, x], argTypes := #[t, t] })
    (base : Nat) (e : TypeId) (i : TypeInfo) (z : Value) (size bytes : Nat) (ht : P.underlying t = some (.slice e)) (hi : P.info? e = some i) (hz : i.zero = some z)
    (hsize : i.size = size) (hby : i.bytes = bytes) (hzs : z.cells.size = size) (hsz : 0 < size)
    (v : Value) (n : Nat) (xs : List Value) (hs : a.eval s = v) (hown : w.ownsRow base e size v n xs)
    (news : List Value) (hl : news.length = size) (hx : a.eval x = .slice (some ⟨w.heap.size, 0, none⟩) 1 1) (h1 : news.all Value.oneCell' = true)
    (h63 : n + 1 ≤ 1099511627776) (hbytes : bytes ≤ 128) (hbase : base ≤ w.heap.size)
    (h : ∀ v' w', w'.ownsRow base e size v' (n + 1) (xs ++ news) → w.grownBy w' v.ownBlock → (v'.ownBlock = v.ownBlock ∨ ∃ k, v'.ownBlock = some k ∧ w.heap.size < k) → wpList P ops Q rest (a.put o.dst v') w') :
    wpList P ops Q (o :: rest) a (w.alloc (.cells news.toArray e)) := by
  refine wpList_append_any _ hgd s x t ho base e i z size bytes ht hi hz hsize hby hzs hsz v n xs hs (hown.alloc _) (w.heap.size + 1) (some ⟨w.heap.size, 0, none⟩) 1 1 news hx ⟨by omega, fun _ => ⟨w.heap.size, 0, rfl, Nat.lt_succ_self _, fun j u hu => ?_⟩⟩ (fun u hu => List.all_eq_true.1 h1 u hu) (by unfold maxLen; omega)
    (Nat.le_trans (Nat.mul_le_mul h63 hbytes) (by omega)) (by simp; omega) (fun v' w' hO hg h3 => h v' w' hO (grown_alloc hg) (h3.imp id fun h4 => ⟨_, h4, by rw [alloc_size]; exact Nat.lt_succ_self _⟩))
  rw [Nat.zero_add, World.cell?_alloc_mark]
  simpa using hu

end Go.Proofs.Ytalnkdbmbjplpaa
