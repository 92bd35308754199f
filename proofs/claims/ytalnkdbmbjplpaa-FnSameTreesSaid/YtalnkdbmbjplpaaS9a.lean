/- What the reference's draws of statements hand back; l1In. -/
import Derived.Test.YtalnkdbmbjplpaaE8c
namespace Go.Proofs.Ytalnkdbmbjplpaa
open Go.RowKit

theorem info_St9 : (Try.prog.info? 31).map (fun i => (i.zero, i.size, i.bytes)) = some (some (.agg #[.int .i64 0, .string ⟨#[]⟩, .string ⟨#[]⟩, .slice none 0 0, .slice none 0 0, .slice none 0 0]), 6, 112) := by kernel_rfl
/-- A row of terms that is still worked on. -/
def RX (g : Nat) (U : Nat → Prop) (w : World) (base : Nat) (v : Value) (L : List ((Int × Int × ByteArray) × Fr (Int × Int × ByteArray))) (l : List ((Int × Int × ByteArray) × Value)) : Prop := Rw g U w base 26 4 v l.length (flat (rC exprC) l) ∧ Fit exprC w U L l
/-- A row of statements that is still worked on. -/
def RA (g : Nat) (U : Nat → Prop) (w : World) (base : Nat) (v : Value) (L : List TS) (l : List VS) : Prop := Rw g U w base 31 6 v l.length (flat sC l) ∧ FitT w U L l
/-- A drawn statement's rows of terms and of statements are still the caller's to append to; the second's block lies behind the first's. -/
def OS (n B g : Nat) (U : Nat → Prop) (w : World) (U' : Nat → Prop) (w' : World) (mid : Nat) (vX : Value) (LX : List ((Int × Int × ByteArray) × Fr (Int × Int × ByteArray))) (lx : List ((Int × Int × ByteArray) × Value)) (vA : Value) (LA : List TS) (la : List VS) (Q : Option Addr) (q : St) : Prop :=
  (mkFr LX).size + (mkSt LA).size + q.size ≤ n ∧ RX g U' w' w.heap.size vX LX lx ∧ (∀ k, vX.ownBlock = some k → k < mid) ∧ w.heap.size ≤ mid ∧ RA g U' w' mid vA LA la ∧ SlSP w' U' Q q ∧ Cu B g U' w' ∧ Gro g U w U' w'
/-- It hands back a statement whose rows are still the caller's. -/
def ROpS (n B g : Nat) (U : Nat → Prop) (w : World) (e : Ending) (w' : World) : Prop := ∃ (k : Int) (s t : ByteArray) (vX vA : Value) (Q : Option Addr) (cq mid : Nat) (LX : List ((Int × Int × ByteArray) × Fr (Int × Int × ByteArray))) (lx : List ((Int × Int × ByteArray) × Value)) (LA : List TS) (la : List VS) (q : St) (U' : Nat → Prop), e = .returned (.agg #[.int .i64 k, .string s, .string t, vX, vA, .slice Q q.len cq]) ∧ OS n B g U w U' w' mid vX LX lx vA LA la Q q
/-- A drawn statement's blocks are frozen. -/
def CS (n B g : Nat) (U : Nat → Prop) (w : World) (U' : Nat → Prop) (w' : World) (X : Option Addr) (x : Fr (Int × Int × ByteArray)) (A : Option Addr) (p : St) (Q : Option Addr) (q : St) : Prop := x.size + p.size + q.size ≤ n ∧ SlP exprC w' U' X x ∧ SlSP w' U' A p ∧ SlSP w' U' Q q ∧ Cu B g U' w' ∧ Gro g U w U' w'
/-- It hands back a statement. -/
def RSt (n B g : Nat) (U : Nat → Prop) (w : World) (e : Ending) (w' : World) : Prop := ∃ (k : Int) (s t : ByteArray) (x : Fr (Int × Int × ByteArray)) (p q : St) (X A Q : Option Addr) (cx ca cq : Nat) (U' : Nat → Prop), e = .returned (.agg #[.int .i64 k, .string s, .string t, .slice X x.len cx, .slice A p.len ca, .slice Q q.len cq]) ∧ CS n B g U w U' w' X x A p Q q
/-- It hands back a row of statements that is still the caller's. -/
def ROpL (n B g : Nat) (U : Nat → Prop) (w : World) (e : Ending) (w' : World) : Prop := ∃ (v : Value) (L : List TS) (l : List VS) (U' : Nat → Prop), e = .returned v ∧ (mkSt L).size ≤ n ∧ RA g U' w' w.heap.size v L l ∧ Cu B g U' w' ∧ Gro g U w U' w'
/-- It hands back a row of statements. -/
def RLs (n B g : Nat) (U : Nat → Prop) (w : World) (e : Ending) (w' : World) : Prop := ∃ (A : Option Addr) (c : Nat) (p : St) (U' : Nat → Prop), e = .returned (.slice A p.len c) ∧ p.size ≤ n ∧ SlSP w' U' A p ∧ Cu B g U' w' ∧ Gro g U w U' w'
section
variable {n m B g r mid : Nat} {U U1 U' : Nat → Prop} {w w1 w' : World} {vX vA : Value} {LX : List ((Int × Int × ByteArray) × Fr (Int × Int × ByteArray))} {lx : List ((Int × Int × ByteArray) × Value)} {LA : List TS} {la : List VS} {X A Q : Option Addr} {x : Fr (Int × Int × ByteArray)} {p q : St}
theorem RX.close {base : Nat} (h : RX g U w base vX LX lx) (C : Cu B g U w) : ∃ X cx, vX = .slice X (mkFr LX).len cx ∧ SlP exprC w (fun b => U b ∨ vX.ownBlock = some b) X (mkFr LX) ∧ Cu B g (fun b => U b ∨ vX.ownBlock = some b) w := by
  obtain ⟨X, cx, e, hS⟩ := SlP.of_rw h.1 h.2
  exact ⟨X, cx, e, hS, C.freeze (fun b hb => ⟨by have := (h.1.lt b hb).1; have := h.1.2.2; omega, (h.1.lt b hb).2⟩)⟩
theorem RA.close {base : Nat} (h : RA g U w base vA LA la) (C : Cu B g U w) : ∃ A ca, vA = .slice A (mkSt LA).len ca ∧ SlSP w (fun b => U b ∨ vA.ownBlock = some b) A (mkSt LA) ∧ Cu B g (fun b => U b ∨ vA.ownBlock = some b) w := by
  obtain ⟨A, ca, e, hS⟩ := SlSP.of_rw h.1 h.2
  exact ⟨A, ca, e, hS, C.freeze (fun b hb => ⟨by have := (h.1.lt b hb).1; have := h.1.2.2; omega, (h.1.lt b hb).2⟩)⟩
theorem OS.close (h : OS n B g U w U' w' mid vX LX lx vA LA la Q q) : ∃ X cx A ca, vX = .slice X (mkFr LX).len cx ∧ vA = .slice A (mkSt LA).len ca ∧ CS n B g U w (fun b => (U' b ∨ vX.ownBlock = some b) ∨ vA.ownBlock = some b) w' X (mkFr LX) A (mkSt LA) Q q := by
  obtain ⟨h1, hX, h3, h4, hA, hQ, C, G⟩ := h
  obtain ⟨X, cx, ex, SX, CX⟩ := hX.close C
  obtain ⟨A, ca, ea, SA, _⟩ := hA.close C
  refine ⟨X, cx, A, ca, ex, ea, h1, SX.more (fun _ h => .inl h), SA.more (fun b h => h.elim (fun h => .inl (.inl h)) .inr), hQ.more (fun _ h => .inl (.inl h)), CX.freeze (fun b hb => ⟨by have := (hA.1.lt b hb).1; have := hA.1.2.2; omega, (hA.1.lt b hb).2⟩), (G.freeze (fun b hb => (hX.1.lt b hb).1)).freeze (fun b hb => Nat.le_trans h4 (hA.1.lt b hb).1)⟩
theorem ROpS.close {e : Ending} (h : ROpS n B g U w e w') : RSt n B g U w e w' := by
  obtain ⟨k, s, t, vX, vA, Q, cq, mid, LX, lx, LA, la, q, U', e, h⟩ := h
  obtain ⟨X, cx, A, ca, ex, ea, hc⟩ := h.close
  exact ⟨k, s, t, mkFr LX, mkSt LA, q, X, A, Q, cx, ca, cq, _, by rw [e, ex, ea], hc⟩
theorem ROpL.close {e : Ending} (h : ROpL n B g U w e w') : RLs n B g U w e w' := by
  obtain ⟨v, L, l, U', e, h1, hA, C, G⟩ := h
  obtain ⟨A, ca, ea, SA, CA⟩ := hA.close C
  exact ⟨A, ca, mkSt L, _, by rw [e, ea], h1, SA, CA, G.freeze (fun b hb => (hA.1.lt b hb).1)⟩
theorem RX.setb {base b j : Nat} (h : RX g U w base vX LX lx) (hb : vX.ownBlock ≠ some b) (hu : ¬ U b) (u : Value) : RX g U (w.setCell ⟨b, j, none⟩ u) base vX LX lx := ⟨h.1.setb hb u, h.2.setb hu u⟩
theorem RA.setb {base b j : Nat} (h : RA g U w base vA LA la) (hb : vA.ownBlock ≠ some b) (hu : ¬ U b) (u : Value) : RA g U (w.setCell ⟨b, j, none⟩ u) base vA LA la := ⟨h.1.setb hb u, h.2.setb hu u⟩
theorem RX.gro {base : Nat} (h : RX g U w base vX LX lx) (C : Cu B g U w) (G : Gro g U w U' w') : RX g U' w' base vX LX lx := ⟨h.1.gro G, h.2.gro C G⟩
theorem RA.gro {base : Nat} (h : RA g U w base vA LA la) (C : Cu B g U w) (G : Gro g U w U' w') : RA g U' w' base vA LA la := ⟨h.1.gro G, h.2.gro C G⟩
theorem RX.alloc {base : Nat} (h : RX g U w base vX LX lx) (C : Cu B g U w) (o : Obj) : RX g U (w.alloc o) base vX LX lx := ⟨h.1.alloc o, h.2.alloc C o⟩
theorem RA.alloc {base : Nat} (h : RA g U w base vA LA la) (C : Cu B g U w) (o : Obj) : RA g U (w.alloc o) base vA LA la := ⟨h.1.alloc o, h.2.alloc C o⟩
theorem RX.below {base : Nat} (h : RX g U w base vX LX lx) (C : Cu B g U w) (hb : Below w.heap.size w w') : RX g U w' base vX LX lx := ⟨h.1.below hb, h.2.below C hb⟩
theorem RA.below {base : Nat} (h : RA g U w base vA LA la) (C : Cu B g U w) (hb : Below w.heap.size w w') : RA g U w' base vA LA la := ⟨h.1.below hb, h.2.below C hb⟩
theorem RX.base_ {base base' : Nat} (h : RX g U w base vX LX lx) (hb : base' ≤ base) (hg : g < base') : RX g U w base' vX LX lx := ⟨⟨own_base h.1.1 hb, h.1.2.1, hg⟩, h.2⟩
theorem RA.base_ {base base' : Nat} (h : RA g U w base vA LA la) (hb : base' ≤ base) (hg : g < base') : RA g U w base' vA LA la := ⟨⟨own_base h.1.1 hb, h.1.2.1, hg⟩, h.2⟩
theorem RX.nil {base : Nat} (hg : g < base) : RX g U w base (.slice none 0 0) [] [] := ⟨Rw.nil hg, Fit.nil _ _ _⟩
theorem RA.nil {base : Nat} (hg : g < base) : RA g U w base (.slice none 0 0) [] [] := ⟨Rw.nil hg, FitT.nil _ _⟩
theorem RX.not {base : Nat} (h : RX g U w base vX LX lx) {b : Nat} (hb : b < base ∨ w.heap.size ≤ b) : vX.ownBlock ≠ some b := fun e => by have := h.1.lt _ e; omega
theorem RA.not {base : Nat} (h : RA g U w base vA LA la) {b : Nat} (hb : b < base ∨ w.heap.size ≤ b) : vA.ownBlock ≠ some b := fun e => by have := h.1.lt _ e; omega
theorem RX.form {base : Nat} (h : RX g U w base vX LX lx) : ∃ X cx, vX = .slice X lx.length cx := h.1.form
theorem RA.form {base : Nat} (h : RA g U w base vA LA la) : ∃ A ca, vA = .slice A la.length ca := h.1.form
theorem OS.setb (h : OS n B g U w U' w' mid vX LX lx vA LA la Q q) (hu : ¬ U' r ∧ g < r) (hr : w.heap.size ≤ r) (hx : vX.ownBlock ≠ some r) (ha : vA.ownBlock ≠ some r) (j : Nat) (u : Value) : OS n B g U w U' (w'.setCell ⟨r, j, none⟩ u) mid vX LX lx vA LA la Q q :=
  ⟨h.1, h.2.1.setb hx hu.1 u, h.2.2.1, h.2.2.2.1, h.2.2.2.2.1.setb ha hu.1 u, h.2.2.2.2.2.1.setb hu.1 u, h.2.2.2.2.2.2.1.setb hu.2 u, h.2.2.2.2.2.2.2.setb hr u⟩
theorem CS.setb (h : CS n B g U w U' w' X x A p Q q) (hu : ¬ U' r ∧ g < r) (hr : w.heap.size ≤ r) (j : Nat) (u : Value) : CS n B g U w U' (w'.setCell ⟨r, j, none⟩ u) X x A p Q q :=
  ⟨h.1, h.2.1.setb hu.1 u, h.2.2.1.setb hu.1 u, h.2.2.2.1.setb hu.1 u, h.2.2.2.2.1.setb hu.2 u, h.2.2.2.2.2.setb hr u⟩
theorem CS.trans (h : CS n B g U1 w1 U' w' X x A p Q q) (G : Gro g U w U1 w1) (hm : n ≤ m) : CS m B g U w U' w' X x A p Q q := ⟨Nat.le_trans h.1 hm, h.2.1, h.2.2.1, h.2.2.2.1, h.2.2.2.2.1, G.trans h.2.2.2.2.2⟩
theorem size_mkS {m : Nat} : ∀ (L : List TS), (∀ y ∈ L, y.2.1.size + y.2.2.1.size + y.2.2.2.size ≤ m) → (mkSt L).size ≤ L.length * (m + 1)
  | [], _ => Nat.zero_le _
  | y :: r, h => by
    have h1 := size_mkS r (fun z hz => h z (List.mem_cons_of_mem _ hz))
    have h2 := h y (List.mem_cons_self ..)
    show y.2.1.size + y.2.2.1.size + y.2.2.2.size + (mkSt r).size + 1 ≤ (r.length + 1) * (m + 1)
    rw [Nat.succ_mul]
    omega
end
/-- How many parts a drawn statement has within at most. -/
def nS : Nat → Nat
  | 0 => 44
  | D + 1 => 44 + 6 * (nS D + 1)
theorem nS_pos : ∀ D, 44 ≤ nS D
  | 0 => Nat.le_refl _
  | D + 1 => by show 44 ≤ 44 + 6 * (nS D + 1); omega
theorem cIn (x lo hi : Int) (w : World) : Calls Try.prog 41 #[.int .i64 x, .int .i64 lo, .int .i64 hi] w fun e w' => e = .returned (.bool (decide (lo ≤ x) && decide (x ≤ hi))) ∧ w' = w := by
  by_cases h1 : lo ≤ x
  · have h1' : decide (x ≥ lo) = true := decide_eq_true h1
    by_cases h2 : x ≤ hi
    · have h2' : decide (x ≤ hi) = true := decide_eq_true h2
      rw [decide_eq_true h1, h2', Bool.and_self]
      go_enter Try.func41, Try.ntmps41
      go_wp2_with fail
      go_ret
      exact ⟨rfl, rfl⟩
    · have h2' : decide (x ≤ hi) = false := decide_eq_false h2
      rw [decide_eq_true h1, h2', Bool.and_false]
      go_enter Try.func41, Try.ntmps41
      go_wp2_with fail
      go_ret
      exact ⟨rfl, rfl⟩
  · have h1' : decide (x ≥ lo) = false := decide_eq_false h1
    rw [decide_eq_false h1, Bool.false_and]
    go_enter Try.func41, Try.ntmps41
    go_wp2_with fail
    go_ret
    exact ⟨rfl, rfl⟩

end Go.Proofs.Ytalnkdbmbjplpaa
