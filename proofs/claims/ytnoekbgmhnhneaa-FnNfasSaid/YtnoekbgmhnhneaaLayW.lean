/- Words for a row of nodes that a call lays on: what a call may change, and putting a node behind. No condition. -/
import Derived.Test.YtnoekbgmhnhneaaLayP
import Derived.Test.YtnoekbgmhnhneaaQ0
namespace Go.Proofs.Ytnoekbgmhnhneaa
open Go.RowKit

/-- The row that was laid on is the call's own; beside the row that came in (whose block is r) nothing that was there has changed. -/
structure Lt (w : World) (r : Option Nat) (base : Nat) (w' : World) (A : Option Addr) (c : Nat) (ys : List (Int × ByteArray × Int × Int)) : Prop where
  own : w'.ownsRow base 76 4 (.slice A ys.length c) ys.length (flat nodeC ys)
  gr : w.grownBy w' r
  dj : (Value.slice A ys.length c).ownBlock = r ∨ ∀ k, (Value.slice A ys.length c).ownBlock = some k → w.heap.size ≤ k
section
variable {w w1 w2 : World} {r : Option Nat} {base c c1 c2 : Nat} {A A1 A2 : Option Addr} {xs ys zs : List (Int × ByteArray × Int × Int)}
theorem Lt.start (h : w.ownsRow base 76 4 (.slice A xs.length c) xs.length (flat nodeC xs)) : Lt w (Value.slice A xs.length c).ownBlock base w A c xs := ⟨h, gr_refl _ _, .inl rfl⟩
theorem Lt.keep (h : Lt w r base w1 A c ys) (hb : Below w1.heap.size w1 w2) : Lt w r base w2 A c ys := ⟨(Row.keep (Row.mk h.own) hb).1, gr_below h.gr hb, h.dj⟩
theorem gr_chain {r1 : Option Nat} (h : w.grownBy w1 r) (d : r1 = r ∨ ∀ k, r1 = some k → w.heap.size ≤ k) (g : w1.grownBy w2 r1) : w.grownBy w2 r :=
  ⟨g.os.trans h.os, g.tape.trans h.tape, g.output.trans h.output, Nat.le_trans h.size g.size, fun i hi hne => (g.block i (Nat.lt_of_lt_of_le hi h.size) (fun e => by
    rcases d with d | d
    · exact hne (e.trans d)
    · have := d i e.symm
      omega)).trans (h.block i hi hne)⟩
theorem Lt.next (h : Lt w r base w1 A1 c1 ys) (k : Lt w1 (Value.slice A1 ys.length c1).ownBlock base w2 A2 c2 zs) : Lt w r base w2 A2 c2 zs :=
  ⟨k.own, gr_chain h.gr h.dj k.gr, by
    rcases k.dj with e | e
    · rcases h.dj with e' | e'
      · exact .inl (e.trans e')
      · exact .inr fun j hj => e' j (e.symm.trans hj)
    · exact .inr fun j hj => Nat.le_trans h.gr.size (e j hj)⟩
/-- A block of another type stays. -/
theorem Lt.blk (h : w.ownsRow base 76 4 (.slice A xs.length c) xs.length (flat nodeC xs)) (k : Lt w (Value.slice A xs.length c).ownBlock base w1 A1 c1 ys) {g : Nat} {t : TypeId} {cs : Array Value} (hg : Blk w g t cs) (ht : 76 ≠ t) : Blk w1 g t cs :=
  hg.grown k.gr (fun e => own_blk_ne h hg ht e.symm)
/-- A tree below the row's block stays. -/
theorem Lt.sl (h : w.ownsRow base 76 4 (.slice A xs.length c) xs.length (flat nodeC xs)) (k : Lt w (Value.slice A xs.length c).ownBlock base w1 A1 c1 ys) (hb : base ≤ w.heap.size) {A0 : Option Addr} {fr : Fr (Int × ByteArray)} (hS : Sl rexC w 0 base A0 fr) : Sl rexC w1 0 base A0 fr :=
  hS.keep (fun p _ hp => World.cell?_of_block (k.gr.block p.block (by omega) (fun e => by have := (h.lt _ e.symm).1; omega))) (Nat.le_refl _) (Nat.le_refl _)
/-- What stands below the row's block stays. -/
theorem Lt.cell (h : w.ownsRow base 76 4 (.slice A xs.length c) xs.length (flat nodeC xs)) (k : Lt w (Value.slice A xs.length c).ownBlock base w1 A1 c1 ys) (hb : base ≤ w.heap.size) {p : Addr} (hp : p.block < base) : w1.cell? p = w.cell? p :=
  World.cell?_of_block (k.gr.block p.block (by omega) (fun e => by have := (h.lt _ e.symm).1; omega))
theorem Lt.size (h : Lt w r base w1 A c ys) : w.heap.size ≤ w1.heap.size := h.gr.size
end
/-- It hands back a row laid on, of which R holds. -/
def RetL (R : List (Int × ByteArray × Int × Int) → Prop) (w : World) (r : Option Nat) (base : Nat) (e : Ending) (w' : World) : Prop := ∃ (A : Option Addr) (c : Nat) (ys : List (Int × ByteArray × Int × Int)), e = .returned (.slice A ys.length c) ∧ R ys ∧ Lt w r base w' A c ys
/-- What lays a part (as function f), for parts with fewer than K parts. -/
def LayC (f K : Nat) : Prop := ∀ (kids : Fr (Int × ByteArray)), kids.size < K → ∀ (zk : Int) (zs : ByteArray) (A : Option Addr) (c : Nat) (Ax : Option Addr) (cx : Nat) (xs : List (Int × ByteArray × Int × Int)) (base : Nat) (w : World), kids.size ≤ 60 → xs.length + 6 * (kids.size + 1) ≤ 100000 → hereB zk zs kids = true → lOk kids = true → base ≤ w.heap.size →
  w.ownsRow base 76 4 (.slice Ax xs.length cx) xs.length (flat nodeC xs) → Sl rexC w 0 base A kids →
  Calls Try.prog f #[.slice Ax xs.length cx, .agg #[.int .i64 zk, .string zs, .slice A kids.len c]] w fun e w' => RetL (fun ys => ys = xs ++ layR (zk, zs) kids xs.length) w (Value.slice Ax xs.length cx).ownBlock base e w'
theorem flat_one_ (x : Int × ByteArray × Int × Int) : flat nodeC [x] = nodeC x := by rw [flat_cons]; exact List.append_nil _
theorem flat_app_ : ∀ (l m : List (Int × ByteArray × Int × Int)), flat nodeC (l ++ m) = flat nodeC l ++ flat nodeC m
  | [], _ => rfl
  | x :: l, m => by rw [List.cons_append, flat_cons, flat_cons, flat_app_ l m, List.append_assoc]
section
variable {w : World}
/-- A node behind a row of the call's own. -/
theorem wpList_node {ops : Array Oper} {rest : List Oper} {o : Oper} {a : Act} {Q : Exit → Act → World → Prop} (y : Int × ByteArray × Int × Int) (hgd : o.guard = none) (s x : Operand)
    (ho : o.op = .call { callee := .builtin .append, args := #[s, x], argTypes := #[28, 28] })
    (base : Nat) (A : Option Addr) (c : Nat) (xs : List (Int × ByteArray × Int × Int)) (hs : a.eval s = .slice A xs.length c) (hown : w.ownsRow base 76 4 (.slice A xs.length c) xs.length (flat nodeC xs))
    (hx : a.eval x = .slice (some ⟨w.heap.size, 0, none⟩) 1 1) (h63 : xs.length ≤ 1000000) (hbase : base ≤ w.heap.size)
    (h : ∀ (A' : Option Addr) (c' : Nat) (ys : List (Int × ByteArray × Int × Int)) (w' : World), Hid (ys = xs ++ [y]) → Hid (ys.length = xs.length + 1) → Lt w (Value.slice A xs.length c).ownBlock base w' A' c' ys → wpList Try.prog ops Q rest (a.put o.dst (.slice A' ys.length c')) w') :
    wpList Try.prog ops Q (o :: rest) a (w.alloc (.cells (nodeC y).toArray 76)) := by
  obtain ⟨i0, hi, hz0, hz1, hz2⟩ := info_parts info_node
  have hr : Reads (w.alloc (.cells (nodeC y).toArray 76)) (w.heap.size + 1) 4 (some ⟨w.heap.size, 0, none⟩) 1 (nodeC y) := ⟨rfl, fun _ => ⟨_, _, rfl, Nat.lt_succ_self _, fun j u hu => by
    rw [Nat.zero_add, World.cell?_alloc_mark]
    simpa using hu⟩⟩
  refine wpList_append_any _ hgd s x 28 ho base 76 i0 _ 4 40 Try.underlying28 hi hz0 hz1 hz2 rfl (by decide) _ _ _ hs (hown.alloc _) _ _ 1 1 (nodeC y) hx hr (fun u hu => ?_) (by unfold maxLen; omega)
    (by omega) (by rw [alloc_size]; omega) (fun v' w' hO hg hd => ?_)
  · simp only [nodeC, List.mem_cons, List.not_mem_nil, or_false] at hu
    rcases hu with rfl | rfl | rfl | rfl <;> rfl
  · obtain ⟨ys, hys⟩ : ∃ ys, ys = xs ++ [y] := ⟨_, rfl⟩
    have hl : ys.length = xs.length + 1 := by rw [hys, List.length_append]; rfl
    rw [← flat_one_, ← flat_app_, ← hys, ← hl] at hO
    obtain ⟨A', c', rfl⟩ := (Row.mk hO).form
    refine h A' c' ys w' hys hl ⟨hO, grown_alloc hg, ?_⟩
    rcases hd with e | e
    · exact .inl e
    · refine .inr fun k hk => ?_
      have := e.symm.trans hk
      rw [alloc_size] at this
      have := Option.some.inj this
      omega
end

end Go.Proofs.Ytnoekbgmhnhneaa
