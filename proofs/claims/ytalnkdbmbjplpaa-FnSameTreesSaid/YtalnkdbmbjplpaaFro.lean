/- Frozen blocks: trees built by draws lie in blocks that never change again (U); rows and boxes that are still worked on lie elsewhere. No program in sight but the cursor of a draw. -/
import Derived.Test.YtalnkdbmbjplpaaTreeP
import Derived.Test.YtalnkdbmbjplpaaTreeS
import Derived.Test.YtalnkdbmbjplpaaDrawR
namespace Go.Proofs.Ytalnkdbmbjplpaa
open Go.RowKit

/-- A draw's cursor in block g; the frozen blocks U are there, and the cursor's is none of them. -/
def Cu (B g : Nat) (U : Nat → Prop) (w : World) : Prop := Cur B w g ∧ ¬ U g ∧ ∀ b, U b → b < w.heap.size
/-- From (U, w) to (U', w'): only the cursor's block changed; what is newly frozen is new. -/
structure Gro (g : Nat) (U : Nat → Prop) (w : World) (U' : Nat → Prop) (w' : World) : Prop where
  grown : w.grownBy w' (some g)
  sub : ∀ b, U b → U' b
  new : ∀ b, U' b → U b ∨ w.heap.size ≤ b
/-- A box of the call's own. -/
def Bx (g : Nat) (U : Nat → Prop) (w : World) (r : Nat) (t : TypeId) (cs : Array Value) : Prop := Blk w r t cs ∧ ¬ U r ∧ g < r
/-- A row that is still worked on. -/
def Rw (g : Nat) (U : Nat → Prop) (w : World) (base : Nat) (e : TypeId) (size : Nat) (v : Value) (n : Nat) (xs : List Value) : Prop :=
  w.ownsRow base e size v n xs ∧ (∀ b, v.ownBlock = some b → ¬ U b) ∧ g < base

theorem Cur.le_ {B : Nat} {w : World} {g : Nat} (h : Cur B w g) : B ≤ g := by
  obtain ⟨A, n, c, i, hh, zs, h1, h2, _⟩ := h
  exact h2
section
variable {B g r base size n : Nat} {U U' U0 : Nat → Prop} {w w' w0 : World} {t e : TypeId} {cs : Array Value} {v : Value} {xs : List Value}
theorem Cu.lt (h : Cu B g U w) : g < w.heap.size := h.1.lt
theorem Cu.fresh (h : Cu B g U w) {b : Nat} (hb : w.heap.size ≤ b) : ¬ U b := fun hu => by have := h.2.2 b hu; omega
theorem Cu.alloc (h : Cu B g U w) (o : Obj) : Cu B g U (w.alloc o) := ⟨h.1.alloc o, h.2.1, fun b hb => by have := h.2.2 b hb; rw [alloc_size]; omega⟩
theorem Cu.setb (h : Cu B g U w) {b j : Nat} (hb : g < b) (u : Value) : Cu B g U (w.setCell ⟨b, j, none⟩ u) :=
  ⟨h.1.far (gr_set (p := ⟨b, j, none⟩) (gr_refl w (some b)) (.inl rfl) u) (fun k e => by cases e; have := h.1.le_; omega), h.2.1, fun b hb => by simpa [World.setCell] using h.2.2 b hb⟩
theorem Cu.drew (h : Cu B g U w) (n : Nat) : Cu B g U (w.drewN n) := h
theorem Cu.row {row : Option Nat} (h : Cu B g U w) (hg : w.grownBy w' row) (hr : ∀ k, row = some k → g < k) : Cu B g U w' :=
  ⟨h.1.far hg (fun k e => by have := hr k e; have := h.1.le_; omega), h.2.1, fun b hb => Nat.lt_of_lt_of_le (h.2.2 b hb) hg.size⟩
theorem Cu.call (h : Cu B g U w) (hc : Cur B w' g) (hg : w.grownBy w' (some g)) : Cu B g U w' := ⟨hc, h.2.1, fun b hb => Nat.lt_of_lt_of_le (h.2.2 b hb) hg.size⟩
theorem Gro.refl (g : Nat) (U : Nat → Prop) (w : World) : Gro g U w U w := ⟨gr_refl _ _, fun _ h => h, fun _ h => .inl h⟩
theorem Gro.of (hg : w.grownBy w' (some g)) (U : Nat → Prop) : Gro g U w U w' := ⟨hg, fun _ h => h, fun _ h => .inl h⟩
theorem Gro.trans (h : Gro g U0 w0 U w) (k : Gro g U w U' w') : Gro g U0 w0 U' w' :=
  ⟨gr_trans h.grown k.grown, fun b hb => k.sub b (h.sub b hb), fun b hb => by
    rcases k.new b hb with h1 | h1
    · exact h.new b h1
    · exact .inr (Nat.le_trans h.grown.size h1)⟩
theorem Gro.alloc (h : Gro g U0 w0 U w) (o : Obj) : Gro g U0 w0 U (w.alloc o) := ⟨gr_alloc h.grown o, h.sub, h.new⟩
theorem Gro.drew (h : Gro g U0 w0 U w) (n : Nat) : Gro g U0 w0 U (w.drewN n) := ⟨gr_drewN h.grown n, h.sub, h.new⟩
theorem Gro.setb (h : Gro g U0 w0 U w) {b j : Nat} (hb : w0.heap.size ≤ b) (u : Value) : Gro g U0 w0 U (w.setCell ⟨b, j, none⟩ u) := ⟨gr_set (p := ⟨b, j, none⟩) h.grown (.inr hb) u, h.sub, h.new⟩
theorem Gro.row {row : Option Nat} (h : Gro g U0 w0 U w) (hg : w.grownBy w' row) (hr : ∀ k, row = some k → w0.heap.size ≤ k) : Gro g U0 w0 U w' :=
  ⟨⟨hg.os.trans h.grown.os, hg.tape.trans h.grown.tape, hg.output.trans h.grown.output, Nat.le_trans h.grown.size hg.size, fun k hk hk' => (hg.block k (Nat.lt_of_lt_of_le hk h.grown.size) (fun e => by have := hr _ e.symm; omega)).trans (h.grown.block k hk hk')⟩, h.sub, h.new⟩
theorem Gro.freeze (h : Gro g U0 w0 U w) {V : Nat → Prop} (hV : ∀ b, V b → w0.heap.size ≤ b) : Gro g U0 w0 (fun b => U b ∨ V b) w := ⟨h.grown, fun b hb => .inl (h.sub b hb), fun b hb => hb.elim (h.new b) (fun h1 => .inr (hV b h1))⟩
theorem Gro.sz (h : Gro g U w U' w') : w.heap.size ≤ w'.heap.size := h.grown.size
theorem Gro.not (h : Gro g U w U' w') {r : Nat} (hr : ¬ U r) (hl : r < w.heap.size) : ¬ U' r := fun hu => by
  rcases h.new r hu with h1 | h1
  · exact hr h1
  · omega
theorem Cu.freeze (h : Cu B g U w) {V : Nat → Prop} (hV : ∀ b, V b → g < b ∧ b < w.heap.size) : Cu B g (fun b => U b ∨ V b) w := ⟨h.1, fun e => e.elim h.2.1 (fun h1 => by have := (hV g h1).1; omega), fun b hb => hb.elim (h.2.2 b) (fun h1 => (hV b h1).2)⟩
theorem Bx.new (h : Cu B g U w) (t : TypeId) (cs : Array Value) : Bx g U (w.alloc (.cells cs t)) w.heap.size t cs := ⟨Blk.new w t cs, h.fresh (Nat.le_refl _), h.lt⟩
theorem Bx.lt (h : Bx g U w r t cs) : r < w.heap.size := h.1.lt
theorem Bx.alloc (h : Bx g U w r t cs) (o : Obj) : Bx g U (w.alloc o) r t cs := ⟨h.1.alloc o, h.2⟩
theorem Bx.set_ (h : Bx g U w r t cs) (j : Nat) (u : Value) : Bx g U (w.setCell ⟨r, j, none⟩ u) r t (cs.setIfInBounds j u) := ⟨h.1.set_ j u, h.2⟩
theorem Bx.far (h : Bx g U w r t cs) {b j : Nat} (hb : r ≠ b) (u : Value) : Bx g U (w.setCell ⟨b, j, none⟩ u) r t cs := ⟨h.1.farb hb u, h.2⟩
theorem Bx.gro (h : Bx g U w r t cs) (k : Gro g U w U' w') : Bx g U' w' r t cs := ⟨h.1.grown k.grown (fun e => by injection e with e; have := h.2.2; omega), k.not h.2.1 h.1.lt, h.2.2⟩
theorem Bx.row {row : Option Nat} (h : Bx g U w r t cs) (hg : w.grownBy w' row) (hr : some r ≠ row) : Bx g U w' r t cs := ⟨h.1.grown hg hr, h.2⟩
theorem Bx.freeze (h : Bx g U w r t cs) {V : Nat → Prop} (hV : ¬ V r) : Bx g (fun b => U b ∨ V b) w r t cs := ⟨h.1, fun e => e.elim h.2.1 hV, h.2.2⟩
theorem Bx.cell (h : Bx g U w r t cs) (i : Nat) : w.cell? ⟨r, i, none⟩ = cs[i]? := h.1.cell i
theorem Bx.frozen (h : Bx g U w r t cs) (i : Nat) : w.frozen? ⟨r, i, none⟩ = false := h.1.frozen i
theorem Rw.alloc (h : Rw g U w base e size v n xs) (o : Obj) : Rw g U (w.alloc o) base e size v n xs := ⟨h.1.alloc o, h.2⟩
theorem Rw.lt (h : Rw g U w base e size v n xs) : ∀ k, v.ownBlock = some k → base ≤ k ∧ k < w.heap.size := h.1.lt
theorem Rw.setb (h : Rw g U w base e size v n xs) {b j : Nat} (hb : v.ownBlock ≠ some b) (u : Value) : Rw g U (w.setCell ⟨b, j, none⟩ u) base e size v n xs := ⟨ownsRow_setCell_other (a := ⟨b, j, none⟩) h.1 hb u, h.2⟩
theorem Rw.setl (h : Rw g U w base e size v n xs) {b j : Nat} (hb : b < base) (u : Value) : Rw g U (w.setCell ⟨b, j, none⟩ u) base e size v n xs := h.setb (fun e => by have := (h.lt _ e).1; omega) u
theorem Rw.gro (h : Rw g U w base e size v n xs) (k : Gro g U w U' w') : Rw g U' w' base e size v n xs := ⟨own_gr h.1 k.grown h.2.2, fun b hb => k.not (h.2.1 b hb) (h.1.lt b hb).2, h.2.2⟩
theorem Rw.row {row : Option Nat} (h : Rw g U w base e size v n xs) (hg : w.grownBy w' row) (hr : ∀ k, v.ownBlock = some k → row ≠ some k) : Rw g U w' base e size v n xs := ⟨h.1.kept hg (by
    cases hv : v.ownBlock with
    | none => exact .inl rfl
    | some k => exact .inr (fun e => hr k hv e.symm)), h.2⟩
theorem Rw.nil (hb : g < base) : Rw g U w base e size (.slice none 0 0) 0 [] := ⟨World.ownsRow_nil _ _ _ _, fun b hb => by simp [Value.ownBlock] at hb, hb⟩
theorem Rw.form (h : Rw g U w base e size v n xs) : ∃ A c, v = .slice A n c := (Row.mk h.1).form
theorem Cu.below (h : Cu B g U w) (hb : Below w.heap.size w w') : Cu B g U w' := ⟨h.1.keep hb, h.2.1, fun b hu => Nat.lt_of_lt_of_le (h.2.2 b hu) hb.size⟩
theorem Gro.below (h : Gro g U0 w0 U w) (hb : Below w.heap.size w w') : Gro g U0 w0 U w' := ⟨gr_below h.grown hb, h.sub, h.new⟩
theorem Bx.below (h : Bx g U w r t cs) (hb : Below w.heap.size w w') : Bx g U w' r t cs := ⟨h.1.keep hb, h.2⟩
theorem Rw.below (h : Rw g U w base e size v n xs) (hb : Below w.heap.size w w') : Rw g U w' base e size v n xs := ⟨((Row.mk h.1).keep hb).1, h.2⟩
/-- The row behind an append. -/
theorem Rw.push {v' : Value} {n' : Nat} {xs' : List Value} (h : Rw g U w base e size v n xs) (c : Cu B g U w) (hO : w'.ownsRow base e size v' n' xs') (hv : v'.ownBlock = v.ownBlock ∨ ∃ k, v'.ownBlock = some k ∧ w.heap.size < k) : Rw g U w' base e size v' n' xs' :=
  ⟨hO, fun b hb => by
    rcases hv with h7 | ⟨k, h7, h8⟩
    · exact h.2.1 b (h7 ▸ hb)
    · rw [h7] at hb; injection hb with hb; exact c.fresh (by omega), h.2.2⟩
end
section
variable {α : Type} {f : α → List Value} {g : Nat} {U U' : Nat → Prop} {w w' : World}
theorem Gro.cell {p : Addr} (k : Gro g U w U' w') (hg : ¬ U g) (hl : ∀ b, U b → b < w.heap.size) (hp : U p.block) : w'.cell? p = w.cell? p :=
  World.cell?_of_block (k.grown.block p.block (hl _ hp) (fun e => hg (by injection e with e; rw [← e]; exact hp)))
theorem SlP.gro {B : Nat} {A : Option Addr} {fr : Fr α} (h : SlP f w U A fr) (c : Cu B g U w) (k : Gro g U w U' w') : SlP f w' U' A fr := h.keep (fun _ hp => k.cell c.2.1 c.2.2 hp) k.sub
theorem SlP.alloc {B : Nat} {A : Option Addr} {fr : Fr α} (h : SlP f w U A fr) (c : Cu B g U w) (o : Obj) : SlP f (w.alloc o) U A fr := h.keep (fun p hp => World.cell?_alloc_lt w o p (c.2.2 _ hp)) (fun _ h => h)
theorem SlP.setb {A : Option Addr} {fr : Fr α} (h : SlP f w U A fr) {b j : Nat} (hb : ¬ U b) (u : Value) : SlP f (w.setCell ⟨b, j, none⟩ u) U A fr := h.keep (fun _ hp => World.cell?_setCell_other w _ _ _ (fun e => hb (by subst e; exact hp))) (fun _ h => h)
theorem SlP.row {B : Nat} {A : Option Addr} {fr : Fr α} {row : Option Nat} (h : SlP f w U A fr) (c : Cu B g U w) (hg : w.grownBy w' row) (hr : ∀ k, row = some k → ¬ U k) : SlP f w' U A fr := h.keep (fun p hp => World.cell?_of_block (hg.block p.block (c.2.2 _ hp) (fun e => hr _ e.symm hp))) (fun _ h => h)
theorem SlP.more {A : Option Addr} {fr : Fr α} (h : SlP f w U A fr) (hU : ∀ b, U b → U' b) : SlP f w U' A fr := h.keep (fun _ _ => rfl) hU
theorem Fit.gro {B : Nat} {L : List (α × Fr α)} {l : List (α × Value)} (h : Fit f w U L l) (c : Cu B g U w) (k : Gro g U w U' w') : Fit f w' U' L l := h.keep (fun _ hp => k.cell c.2.1 c.2.2 hp) k.sub
theorem Fit.alloc {B : Nat} {L : List (α × Fr α)} {l : List (α × Value)} (h : Fit f w U L l) (c : Cu B g U w) (o : Obj) : Fit f (w.alloc o) U L l := h.keep (fun p hp => World.cell?_alloc_lt w o p (c.2.2 _ hp)) (fun _ h => h)
theorem Fit.setb {L : List (α × Fr α)} {l : List (α × Value)} (h : Fit f w U L l) {b j : Nat} (hb : ¬ U b) (u : Value) : Fit f (w.setCell ⟨b, j, none⟩ u) U L l := h.keep (fun _ hp => World.cell?_setCell_other w _ _ _ (fun e => hb (by subst e; exact hp))) (fun _ h => h)
theorem Fit.row {B : Nat} {L : List (α × Fr α)} {l : List (α × Value)} {row : Option Nat} (h : Fit f w U L l) (c : Cu B g U w) (hg : w.grownBy w' row) (hr : ∀ k, row = some k → ¬ U k) : Fit f w' U L l := h.keep (fun p hp => World.cell?_of_block (hg.block p.block (c.2.2 _ hp) (fun e => hr _ e.symm hp))) (fun _ h => h)
theorem Fit.more {L : List (α × Fr α)} {l : List (α × Value)} (h : Fit f w U L l) (hU : ∀ b, U b → U' b) : Fit f w U' L l := h.keep (fun _ _ => rfl) hU
theorem Fit.len {L : List (α × Fr α)} {l : List (α × Value)} (h : Fit f w U L l) : l.length = L.length := h.1
theorem SlP.below {B : Nat} {A : Option Addr} {fr : Fr α} (h : SlP f w U A fr) (c : Cu B g U w) (hb : Below w.heap.size w w') : SlP f w' U A fr := h.keep (fun _ hp => hb.cell (c.2.2 _ hp)) (fun _ h => h)
theorem Fit.below {B : Nat} {L : List (α × Fr α)} {l : List (α × Value)} (h : Fit f w U L l) (c : Cu B g U w) (hb : Below w.heap.size w w') : Fit f w' U L l := h.keep (fun _ hp => hb.cell (c.2.2 _ hp)) (fun _ h => h)
theorem SlP.nil_ (w : World) (A : Option Addr) : SlP f w U A .nil := fun h => absurd h (Nat.lt_irrefl 0)
theorem FrP.of_fit : ∀ (L : List (α × Fr α)) (l : List (α × Value)) (b off : Nat), Fit f w U L l → (∀ j u, (flat (rC f) l)[j]? = some u → w.cell? ⟨b, off + j, none⟩ = some u) → FrP f w U (mkFr L) b off
  | [], _, _, _, _, _ => trivial
  | x :: L, [], _, _, h, _ => by have := h.1; simp at this
  | x :: L, y :: l, b, off, h, hc => by
    obtain ⟨A, c, h1, h2⟩ := h.2 0 (by simp)
    simp only [List.getElem?_cons_zero, Option.some.injEq, List.getElem_cons_zero] at h1 h2
    subst h1
    rw [flat_cons] at hc
    have hl : (rC f (x.1, Value.slice A x.2.len c)).length = (f x.1).length + 1 := by simp [rC]
    refine ⟨⟨A, c, fun j u hu => hc j u ?_, h2⟩, ?_⟩
    · have hj : j < (rC f (x.1, Value.slice A x.2.len c)).length := by
        rcases Nat.lt_or_ge j (rC f (x.1, Value.slice A x.2.len c)).length with h | h
        · exact h
        · exact absurd hu (by rw [show (f x.1 ++ [Value.slice A x.2.len c])[j]? = none from List.getElem?_eq_none h]; simp)
      rw [List.getElem?_append_left hj]
      exact hu
    · refine FrP.of_fit L l b _ ⟨by simpa using h.1, fun i hi => ?_⟩ (fun j u hu => ?_)
      · obtain ⟨A', c', q1, q2⟩ := h.2 (i + 1) (by simp; exact hi)
        exact ⟨A', c', by simpa using q1, by simpa using q2⟩
      · have := hc (((f x.1).length + 1) + j) u (by
          rw [List.getElem?_append_right (by rw [hl]; omega), hl, Nat.add_sub_cancel_left]
          exact hu)
        rw [← Nat.add_assoc] at this
        exact this
/-- A row that is done is frozen. -/
theorem SlP.of_rw {base : Nat} {e : TypeId} {m : Nat} {v : Value} {L : List (α × Fr α)} {l : List (α × Value)} (hR : Rw g U w base e m v l.length (flat (rC f) l)) (h : Fit f w U L l) : ∃ A c, v = .slice A (mkFr L).len c ∧ SlP f w (fun b => U b ∨ v.ownBlock = some b) A (mkFr L) := by
  obtain ⟨A, c, rfl⟩ := hR.form
  have hl : l.length = (mkFr L).len := by rw [mkFr_len, h.1]
  refine ⟨A, c, by rw [hl], fun hp => ?_⟩
  obtain ⟨b, rfl, h1, _⟩ := own_blk hR.1 (by omega)
  refine ⟨b, 0, rfl, .inr rfl, FrP.of_fit L l b 0 (h.more (fun _ h => .inl h)) (fun j u hu => ?_)⟩
  have := hR.1.cells rfl j u hu
  rw [add_plain] at this
  exact this
end

theorem step_pushB {P : Program} {w : World} {ops : Array Oper} {o : Oper} {a : Act} {K : Act → World → Prop} {Q : Exit → Act → World → Prop} {E : Prop} (hgd : o.guard = none) (s x : Operand) (t : TypeId)
    (ho : o.op = .call { callee := .builtin .append, args := #[s, x], argTypes := #[t, t] })
    (base : Nat) (e : TypeId) (i : TypeInfo) (z : Value) (size bytes : Nat) (ht : P.underlying t = some (.slice e)) (hi : P.info? e = some i) (hz : i.zero = some z)
    (hsize : i.size = size) (hby : i.bytes = bytes) (hzs : z.cells.size = size) (hsz : 0 < size)
    (v : Value) (n : Nat) (xs : List Value) (hs : a.eval s = v) (hown : w.ownsRow base e size v n xs)
    (news : List Value) (hl : news.length = size) (hx : a.eval x = .slice (some ⟨w.heap.size, 0, none⟩) 1 1) (h1 : news.all Value.oneCell' = true)
    (h63 : n + 1 ≤ 1099511627776) (hbytes : bytes ≤ 128) (hbase : base ≤ w.heap.size)
    (h : ∀ v' w', w'.ownsRow base e size v' (n + 1) (xs ++ news) → w.grownBy w' v.ownBlock → (v'.ownBlock = v.ownBlock ∨ ∃ k, v'.ownBlock = some k ∧ w.heap.size < k) → K (a.put o.dst v') w') :
    if Region.wanted o (yielded ops a.tmps) = true then Oper.wp P o a (w.alloc (.cells news.toArray e)) K Q else E := by
  refine step_append_any _ hgd s x t ho base e i z size bytes ht hi hz hsize hby hzs hsz v n xs hs (hown.alloc _) (w.heap.size + 1) (some ⟨w.heap.size, 0, none⟩) 1 1 news hx ⟨by omega, fun _ => ⟨w.heap.size, 0, rfl, Nat.lt_succ_self _, fun j u hu => ?_⟩⟩ (fun u hu => List.all_eq_true.1 h1 u hu) (by unfold maxLen; omega)
    (Nat.le_trans (Nat.mul_le_mul h63 hbytes) (by omega)) (by simp; omega) (fun v' w' hO hg h3 => h v' w' hO (grown_alloc hg) (h3.imp id fun h4 => ⟨_, h4, by rw [alloc_size]; exact Nat.lt_succ_self _⟩))
  rw [Nat.zero_add, World.cell?_alloc_mark]
  simpa using hu

section
variable (w : World) (P : Nat → Prop)
/-- The row's cells stand behind block b's place off; the blocks of all that lies within satisfy P. -/
def StP : St → Nat → Nat → Prop
  | .nil, _, _ => True
  | .cons a x p q rest, b, off =>
    (∃ X cx A ca B cb, (∀ j u, (stC a (.slice X x.len cx) (.slice A p.len ca) (.slice B q.len cb))[j]? = some u → w.cell? ⟨b, off + j, none⟩ = some u) ∧
      SlP exprC w P X x ∧
      (0 < p.len → ∃ b' o', A = some ⟨b', o', none⟩ ∧ P b' ∧ StP p b' o') ∧
      (0 < q.len → ∃ b' o', B = some ⟨b', o', none⟩ ∧ P b' ∧ StP q b' o')) ∧
    StP rest b (off + 6)
/-- A slice value that holds the row. -/
def SlSP (A : Option Addr) (fr : St) : Prop := 0 < fr.len → ∃ b o, A = some ⟨b, o, none⟩ ∧ P b ∧ StP w P fr b o
end
section
variable {g : Nat} {U U' P P' : Nat → Prop} {w w' : World} {lo hi : Nat}
theorem StP.keep (hk : ∀ p : Addr, P p.block → w'.cell? p = w.cell? p) (hP : ∀ b, P b → P' b) : ∀ (fr : St) (b off : Nat), P b → StP w P fr b off → StP w' P' fr b off
  | .nil, _, _, _, _ => trivial
  | .cons a x p q rest, b, off, h1, h => by
    obtain ⟨⟨X, cx, A, ca, B, cb, hc, hx, hp, hq⟩, hr⟩ := h
    refine ⟨⟨X, cx, A, ca, B, cb, fun j u hu => (hk ⟨b, off + j, none⟩ h1).trans (hc j u hu), hx.keep hk hP, fun h0 => ?_, fun h0 => ?_⟩, StP.keep hk hP rest b _ h1 hr⟩
    · obtain ⟨b', o', e, q1, hi2⟩ := hp h0
      exact ⟨b', o', e, hP b' q1, StP.keep hk hP p b' o' q1 hi2⟩
    · obtain ⟨b', o', e, q1, hi2⟩ := hq h0
      exact ⟨b', o', e, hP b' q1, StP.keep hk hP q b' o' q1 hi2⟩
theorem SlSP.keep {A : Option Addr} {fr : St} (h : SlSP w P A fr) (hk : ∀ p : Addr, P p.block → w'.cell? p = w.cell? p) (hP : ∀ b, P b → P' b) : SlSP w' P' A fr := fun hp => by
  obtain ⟨b, o, e, h1, h3⟩ := h hp
  exact ⟨b, o, e, hP b h1, StP.keep hk hP fr b o h1 h3⟩
theorem StP.to (hP : ∀ b, P b → lo ≤ b ∧ b < hi) : ∀ (fr : St) (b off : Nat), StP w P fr b off → StIn w lo hi fr b off
  | .nil, _, _, _ => trivial
  | .cons a x p q rest, b, off, h => by
    obtain ⟨⟨X, cx, A, ca, B, cb, hc, hx, hp, hq⟩, hr⟩ := h
    refine ⟨⟨X, cx, A, ca, B, cb, hc, hx.to hP, fun h0 => ?_, fun h0 => ?_⟩, StP.to hP rest b _ hr⟩
    · obtain ⟨b', o', e, q1, hi2⟩ := hp h0
      exact ⟨b', o', e, (hP b' q1).1, (hP b' q1).2, StP.to hP p b' o' hi2⟩
    · obtain ⟨b', o', e, q1, hi2⟩ := hq h0
      exact ⟨b', o', e, (hP b' q1).1, (hP b' q1).2, StP.to hP q b' o' hi2⟩
theorem SlSP.to {A : Option Addr} {fr : St} (h : SlSP w P A fr) (hP : ∀ b, P b → lo ≤ b ∧ b < hi) : SlS w lo hi A fr := fun hp => by
  obtain ⟨b, o, e, h1, h3⟩ := h hp
  exact ⟨b, o, e, (hP b h1).1, (hP b h1).2, StP.to hP fr b o h3⟩
theorem SlSP.gro {B : Nat} {A : Option Addr} {fr : St} (h : SlSP w U A fr) (c : Cu B g U w) (k : Gro g U w U' w') : SlSP w' U' A fr := h.keep (fun _ hp => k.cell c.2.1 c.2.2 hp) k.sub
theorem SlSP.alloc {B : Nat} {A : Option Addr} {fr : St} (h : SlSP w U A fr) (c : Cu B g U w) (o : Obj) : SlSP (w.alloc o) U A fr := h.keep (fun p hp => World.cell?_alloc_lt w o p (c.2.2 _ hp)) (fun _ h => h)
theorem SlSP.setb {A : Option Addr} {fr : St} (h : SlSP w U A fr) {b j : Nat} (hb : ¬ U b) (u : Value) : SlSP (w.setCell ⟨b, j, none⟩ u) U A fr := h.keep (fun _ hp => World.cell?_setCell_other w _ _ _ (fun e => hb (by subst e; exact hp))) (fun _ h => h)
theorem SlSP.row {B : Nat} {A : Option Addr} {fr : St} {row : Option Nat} (h : SlSP w U A fr) (c : Cu B g U w) (hg : w.grownBy w' row) (hr : ∀ k, row = some k → ¬ U k) : SlSP w' U A fr := h.keep (fun p hp => World.cell?_of_block (hg.block p.block (c.2.2 _ hp) (fun e => hr _ e.symm hp))) (fun _ h => h)
theorem SlSP.more {A : Option Addr} {fr : St} (h : SlSP w U A fr) (hU : ∀ b, U b → U' b) : SlSP w U' A fr := h.keep (fun _ _ => rfl) hU
theorem SlSP.below {B : Nat} {A : Option Addr} {fr : St} (h : SlSP w U A fr) (c : Cu B g U w) (hb : Below w.heap.size w w') : SlSP w' U A fr := h.keep (fun _ hp => hb.cell (c.2.2 _ hp)) (fun _ h => h)
theorem SlSP.nil_ (w : World) (A : Option Addr) : SlSP w U A .nil := fun h => absurd h (Nat.lt_irrefl 0)
abbrev TS := (Int × ByteArray × ByteArray) × Fr (Int × Int × ByteArray) × St × St
abbrev VS := (Int × ByteArray × ByteArray) × Value × Value × Value
/-- The row of a list of statements. -/
def mkSt : List TS → St
  | [] => .nil
  | x :: r => .cons x.1 x.2.1 x.2.2.1 x.2.2.2 (mkSt r)
theorem mkSt_len : ∀ L : List TS, (mkSt L).len = L.length
  | [] => rfl
  | x :: r => by show (mkSt r).len + 1 = _; rw [mkSt_len r]; rfl
/-- A list of labels and slices is that of statements. -/
def FitT (w : World) (P : Nat → Prop) (L : List TS) (l : List VS) : Prop :=
  l.length = L.length ∧ ∀ i (h : i < L.length), ∃ X cx A ca B cb, l[i]? = some (L[i].1, .slice X L[i].2.1.len cx, .slice A L[i].2.2.1.len ca, .slice B L[i].2.2.2.len cb) ∧ SlP exprC w P X L[i].2.1 ∧ SlSP w P A L[i].2.2.1 ∧ SlSP w P B L[i].2.2.2
theorem FitT.nil (w : World) (P : Nat → Prop) : FitT w P [] [] := ⟨rfl, fun _ h => absurd h (Nat.not_lt_zero _)⟩
theorem FitT.keep {L : List TS} {l : List VS} (h : FitT w P L l) (hk : ∀ p : Addr, P p.block → w'.cell? p = w.cell? p) (hP : ∀ b, P b → P' b) : FitT w' P' L l :=
  ⟨h.1, fun i hi => by
    obtain ⟨X, cx, A, ca, B, cb, h1, h2, h3, h4⟩ := h.2 i hi
    exact ⟨X, cx, A, ca, B, cb, h1, h2.keep hk hP, h3.keep hk hP, h4.keep hk hP⟩⟩
theorem FitT.gro {B : Nat} {L : List TS} {l : List VS} (h : FitT w U L l) (c : Cu B g U w) (k : Gro g U w U' w') : FitT w' U' L l := h.keep (fun _ hp => k.cell c.2.1 c.2.2 hp) k.sub
theorem FitT.alloc {B : Nat} {L : List TS} {l : List VS} (h : FitT w U L l) (c : Cu B g U w) (o : Obj) : FitT (w.alloc o) U L l := h.keep (fun p hp => World.cell?_alloc_lt w o p (c.2.2 _ hp)) (fun _ h => h)
theorem FitT.setb {L : List TS} {l : List VS} (h : FitT w U L l) {b j : Nat} (hb : ¬ U b) (u : Value) : FitT (w.setCell ⟨b, j, none⟩ u) U L l := h.keep (fun _ hp => World.cell?_setCell_other w _ _ _ (fun e => hb (by subst e; exact hp))) (fun _ h => h)
theorem FitT.row {B : Nat} {L : List TS} {l : List VS} {row : Option Nat} (h : FitT w U L l) (c : Cu B g U w) (hg : w.grownBy w' row) (hr : ∀ k, row = some k → ¬ U k) : FitT w' U L l := h.keep (fun p hp => World.cell?_of_block (hg.block p.block (c.2.2 _ hp) (fun e => hr _ e.symm hp))) (fun _ h => h)
theorem FitT.below {B : Nat} {L : List TS} {l : List VS} (h : FitT w U L l) (c : Cu B g U w) (hb : Below w.heap.size w w') : FitT w' U L l := h.keep (fun _ hp => hb.cell (c.2.2 _ hp)) (fun _ h => h)
theorem FitT.more {L : List TS} {l : List VS} (h : FitT w U L l) (hU : ∀ b, U b → U' b) : FitT w U' L l := h.keep (fun _ _ => rfl) hU
theorem FitT.snoc {L : List TS} {l : List VS} (h : FitT w P L l) {a : Int × ByteArray × ByteArray} {x : Fr (Int × Int × ByteArray)} {p q : St} {X A B : Option Addr} {cx ca cb : Nat} (hX : SlP exprC w P X x) (hA : SlSP w P A p) (hB : SlSP w P B q) : FitT w P (L ++ [(a, x, p, q)]) (l ++ [(a, .slice X x.len cx, .slice A p.len ca, .slice B q.len cb)]) := by
  refine ⟨by rw [List.length_append, List.length_append, h.1]; rfl, fun i hi => ?_⟩
  rcases Nat.lt_or_ge i L.length with h1 | h1
  · rw [List.getElem?_append_left (by rw [h.1]; exact h1), List.getElem_append_left h1]
    exact h.2 i h1
  · have e : i = L.length := by rw [List.length_append] at hi; have : [(a, x, p, q)].length = 1 := rfl; omega
    subst e
    rw [List.getElem?_append_right (by rw [h.1]; exact Nat.le_refl _), h.1, Nat.sub_self, List.getElem_append_right (Nat.le_refl _)]
    exact ⟨X, cx, A, ca, B, cb, by simp, by simpa using hX, by simpa using hA, by simpa using hB⟩
theorem StP.of_fit : ∀ (L : List TS) (l : List VS) (b off : Nat), FitT w P L l → (∀ j u, (flat sC l)[j]? = some u → w.cell? ⟨b, off + j, none⟩ = some u) → StP w P (mkSt L) b off
  | [], _, _, _, _, _ => trivial
  | x :: L, [], _, _, h, _ => by have := h.1; simp at this
  | x :: L, y :: l, b, off, h, hc => by
    obtain ⟨X, cx, A, ca, B, cb, h1, h2, h3, h4⟩ := h.2 0 (by simp)
    simp only [List.getElem?_cons_zero, Option.some.injEq, List.getElem_cons_zero] at h1 h2 h3 h4
    subst h1
    rw [flat_cons] at hc
    refine ⟨⟨X, cx, A, ca, B, cb, fun j u hu => hc j u ?_, h2, h3, h4⟩, ?_⟩
    · have hj : j < 6 := by
        rcases Nat.lt_or_ge j 6 with h | h
        · exact h
        · exact absurd hu (by rw [List.getElem?_eq_none (by exact h)]; simp)
      rw [List.getElem?_append_left (by rw [sC_len]; exact hj)]
      exact hu
    · refine StP.of_fit L l b _ ⟨by simpa using h.1, fun i hi => ?_⟩ (fun j u hu => ?_)
      · obtain ⟨X, cx, A, ca, B, cb, h1, h2, h3, h4⟩ := h.2 (i + 1) (by simp; exact hi)
        exact ⟨X, cx, A, ca, B, cb, by simpa using h1, by simpa using h2, by simpa using h3, by simpa using h4⟩
      · have := hc (6 + j) u (by
          rw [List.getElem?_append_right (by rw [sC_len]; omega), sC_len, Nat.add_sub_cancel_left]
          exact hu)
        rw [← Nat.add_assoc] at this
        exact this
/-- A row of statements that is done is frozen. -/
theorem SlSP.of_rw {base : Nat} {e : TypeId} {v : Value} {L : List TS} {l : List VS} (hR : Rw g U w base e 6 v l.length (flat sC l)) (h : FitT w U L l) : ∃ A c, v = .slice A (mkSt L).len c ∧ SlSP w (fun b => U b ∨ v.ownBlock = some b) A (mkSt L) := by
  obtain ⟨A, c, rfl⟩ := hR.form
  have hl : l.length = (mkSt L).len := by rw [mkSt_len, h.1]
  refine ⟨A, c, by rw [hl], fun hp => ?_⟩
  obtain ⟨b, rfl, h1, _⟩ := own_blk hR.1 (by omega)
  refine ⟨b, 0, rfl, .inr rfl, StP.of_fit L l b 0 (h.more (fun _ h => .inl h)) (fun j u hu => ?_)⟩
  have := hR.1.cells rfl j u hu
  rw [add_plain] at this
  exact this
end

end Go.Proofs.Ytalnkdbmbjplpaa
