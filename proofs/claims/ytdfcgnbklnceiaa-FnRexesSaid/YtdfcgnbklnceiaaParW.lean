/- What the walks over either reader of regular expressions share. -/
import Derived.Test.YtdfcgnbklnceiaaParP
namespace Go.Proofs.Ytdfcgnbklnceiaa
open Go.RowKit

theorem gr_setm {a w : World} {g b j : Nat} (h : a.grownBy w (some g)) (hb : a.heap.size ≤ b) (u : Value) : a.grownBy (w.setCell ⟨b, j, none⟩ u) (some g) := gr_set (p := ⟨b, j, none⟩) h (.inr hb) u
theorem gr_own {a w : World} {g j : Nat} (h : a.grownBy w (some g)) (u : Value) : a.grownBy (w.setCell ⟨g, j, none⟩ u) (some g) := gr_set (p := ⟨g, j, none⟩) h (.inl rfl) u
theorem slNil (w : World) (lo hi : Nat) (A : Option Addr) : Sl rexC w lo hi A .nil := fun h => absurd h (Nat.lt_irrefl 0)
theorem Sl.grew {w w' : World} {lo hi : Nat} {A : Option Addr} {fr : Fr (Int × ByteArray)} {row : Option Nat} (h : Sl rexC w lo hi A fr) (hg : w.grownBy w' row) (hr : ∀ k, row = some k → k < lo ∨ hi ≤ k) (hh : hi ≤ w.heap.size) : Sl rexC w' lo hi A fr :=
  h.keep (fun p h1 h2 => World.cell?_of_block (hg.block p.block (by omega) (fun e => by have := hr _ e.symm; omega))) (Nat.le_refl _) (Nat.le_refl _)
/-- A byte as the reader's next one: 0 at the end. -/
def nx (c : Nat) : Int := if c = 256 then 0 else c
/-- It hands back a tree; where the reader then is, and whether all went well. -/
def RetP (R : World → Nat → Bool → Prop) (n : Nat) (X : Option (Tr × Nat)) (g : Nat) (w : World) (e : Ending) (w' : World) : Prop :=
  ∃ (k : Int) (t : ByteArray) (kids : Fr (Int × ByteArray)) (A : Option Addr) (c q : Nat) (b : Bool), e = .returned (.agg #[.int .i64 k, .string t, .slice A kids.len c]) ∧ Sl rexC w' w.heap.size w'.heap.size A kids ∧ R w' q b ∧ w.grownBy w' (some g) ∧ q ≤ n ∧ X = cond b none (some (((k, t), kids), q))
section
variable {F : Nat → Option (Tr × Nat)} {s : ByteArray} {i : Nat}
theorem atom_lit (h : litB (bA s i) = true) : atomP F s i = some (leafT 1 ⟨#[(bA s i).toUInt8]⟩, i + 1) := by unfold atomP; rw [if_pos h]
theorem atom_any (h : bA s i = 46) : atomP F s i = some (leafT 2 ⟨#[]⟩, i + 1) := by unfold atomP; rw [h]; rfl
theorem atom_begin (h : bA s i = 94) : atomP F s i = some (leafT 10 ⟨#[]⟩, i + 1) := by unfold atomP; rw [h]; rfl
theorem atom_end (h : bA s i = 36) : atomP F s i = some (leafT 11 ⟨#[]⟩, i + 1) := by unfold atomP; rw [h]; rfl
theorem atom_set (h : bA s i = 91) : atomP F s i = setP s (i + 1) := by unfold atomP; rw [h]; rfl
theorem atom_group (h : bA s i = 40) : atomP F s i = groupP F s (i + 1) := by unfold atomP; rw [h]; rfl
theorem atom_none (h : litB (bA s i) = false) (h1 : bA s i ≠ 46) (h2 : bA s i ≠ 94) (h3 : bA s i ≠ 36) (h4 : bA s i ≠ 91) (h5 : bA s i ≠ 40) : atomP F s i = none := by
  unfold atomP
  rw [if_neg (by rw [h]; exact Bool.false_ne_true), if_neg h1, if_neg h2, if_neg h3, if_neg h4, if_neg h5]
theorem set_none (h : ¬ skB s i < s.size) : setP s i = none := by unfold setP; rw [if_neg h]
theorem set_some (h : skB s i < s.size) : setP s i = some (leafT 3 (s.extract i (skB s i)), skB s i + 1) := by unfold setP; rw [if_pos h]
theorem group_empty (h : bA s i = 41) : groupP F s i = some (leafT 9 ⟨#[]⟩, i + 1) := by unfold groupP; rw [if_pos h]
theorem group_bad (h : bA s i ≠ 41) (hF : F i = none) : groupP F s i = none := by unfold groupP; rw [if_neg h, hF]
theorem group_open {x : Tr} {q : Nat} (h : bA s i ≠ 41) (hF : F i = some (x, q)) (hq : bA s q ≠ 41) : groupP F s i = none := by unfold groupP; rw [if_neg h, hF]; simp only [if_neg hq]
theorem group_some {x : Tr} {q : Nat} (h : bA s i ≠ 41) (hF : F i = some (x, q)) (hq : bA s q = 41) : groupP F s i = some (x, q + 1) := by unfold groupP; rw [if_neg h, hF]; simp only [if_pos hq]
theorem item_none (h : atomP F s i = none) : itemP F s i = none := by unfold itemP; rw [h]
theorem item_plain {x : Tr} {q : Nat} (h : atomP F s i = some (x, q)) (h0 : repK (bA s q) = 0) : itemP F s i = some (x, q) := by unfold itemP moreP; rw [h]; simp only [if_pos h0]
theorem item_rep {x : Tr} {q : Nat} {k : Int} (h : atomP F s i = some (x, q)) (h0 : repK (bA s q) = k) (hk : k ≠ 0) : itemP F s i = some (((k, ⟨#[]⟩), .cons x.1 x.2 .nil), q + 1) := by unfold itemP moreP; rw [h]; subst h0; simp only [if_neg hk]
end
/-- Where a closing bracket is, as the search for it tells. -/
theorem skB_search (s : ByteArray) (i : Nat) (hi : i ≤ s.size) : (Lib.indexByte (s.extract i s.size).data.toList 93 < 0 ∧ ¬ skB s i < s.size) ∨ (∃ n : Nat, Lib.indexByte (s.extract i s.size).data.toList 93 = n ∧ skB s i = i + n ∧ skB s i < s.size) := by
  have hl : (s.extract i s.size).data.toList = s.data.toList.drop i := Lib.extract_to_end s i
  have hsz : s.data.toList.length = s.size := by simp
  have hb : ∀ j, i ≤ j → j < s.size → ((s.data.toList.drop i)[j - i]? = some 93 ↔ bA s j = 93) := fun j h1 h2 => by
    rw [List.getElem?_drop, show i + (j - i) = j by omega, Lib.data_getElem? s j h2, bA_in h2]
    simp only [Option.some.injEq]
    exact ⟨fun h => by rw [h]; rfl, fun h => UInt8.toNat_inj.1 h⟩
  rw [hl]
  generalize hL : s.data.toList.drop i = L at hb
  have hLl : L.length = s.size - i := by rw [← hL, List.length_drop, hsz]
  clear hl hL
  have key : ∀ (L : List UInt8) (m : Nat), (Lib.indexByte L 93 < 0 ∧ ∀ j : Nat, j < L.length → L[j]? ≠ some 93) ∨ ∃ n : Nat, Lib.indexByte L 93 = n ∧ n < L.length ∧ L[n]? = some 93 ∧ ∀ j, j < n → L[j]? ≠ some 93 := by
    intro L _
    induction L with
    | nil => exact .inl ⟨by decide, fun j h => absurd h (Nat.not_lt_zero _)⟩
    | cons x r ih =>
      unfold Lib.indexByte
      by_cases hx : x = 93
      · subst hx
        exact .inr ⟨0, by simp, Nat.succ_pos _, rfl, fun j h => absurd h (Nat.not_lt_zero _)⟩
      · have hx' : (x == 93) = false := by simp [hx]
        rcases ih with ⟨h1, h2⟩ | ⟨n, h1, h2, h3, h4⟩
        · have hge := Lib.indexByte_ge r 93
          have e1 : Lib.indexByte r 93 = -1 := by omega
          refine .inl ⟨by rw [hx', if_neg Bool.false_ne_true, e1]; decide, fun j hj => ?_⟩
          cases j with
          | zero => simpa using hx
          | succ j => simpa using h2 j (by simpa using hj)
        · have e1 : (Lib.indexByte r 93 == -1) = false := beq_eq_false_iff_ne.2 (by omega)
          refine .inr ⟨n + 1, by rw [hx', if_neg Bool.false_ne_true, e1, if_neg Bool.false_ne_true, h1]; rfl, by simp; exact h2, by simpa using h3, fun j hj => ?_⟩
          cases j with
          | zero => simpa using hx
          | succ j => simpa using h4 j (by omega)
  rcases key L 0 with ⟨h1, h2⟩ | ⟨n, h1, h2, h3, h4⟩
  · refine .inl ⟨h1, ?_⟩
    rw [skB_uniq (q := s.size) hi (Nat.le_refl _) (fun j q1 q2 e => h2 (j - i) (by omega) ((hb j q1 q2).2 e)) (fun h => absurd h (Nat.lt_irrefl _))]
    exact Nat.lt_irrefl _
  · have e : skB s i = i + n := skB_uniq (by omega) (by omega) (fun j q1 q2 e => h4 (j - i) (by omega) ((hb j q1 (by omega)).2 e)) (fun h => (hb (i + n) (by omega) h).1 (by rw [show i + n - i = n by omega]; exact h3))
    exact .inr ⟨n, h1, e, by omega⟩

/-- A row of trees under way: the blocks of all of it are lo or above. -/
def Acc (w : World) (lo : Nat) (A : Option Addr) (n c : Nat) (L : List Tr) : Prop :=
  L.length = n ∧ ∃ l : List ((Int × ByteArray) × Value), l.length = n ∧ w.ownsRow lo 30 3 (.slice A n c) n (flat (rC rexC) l) ∧ Fit rexC w (fun b => lo ≤ b ∧ b < w.heap.size ∧ (Value.slice A n c).ownBlock ≠ some b) L l
theorem Acc.nil (w : World) (lo : Nat) : Acc w lo none 0 0 [] := ⟨rfl, [], rfl, World.ownsRow_nil _ _ _ _, Fit.nil _ _ _⟩
theorem Acc.lt {w : World} {lo n c : Nat} {A : Option Addr} {L : List Tr} (h : Acc w lo A n c L) : ∀ k, (Value.slice A n c).ownBlock = some k → lo ≤ k ∧ k < w.heap.size := by
  obtain ⟨_, l, _, h, _⟩ := h
  exact h.lt
theorem Acc.grown {w w' : World} {lo n c g : Nat} {A : Option Addr} {L : List Tr} (h : Acc w lo A n c L) (hg : w.grownBy w' (some g)) (hlo : g < lo) : Acc w' lo A n c L := by
  have hlt := h.lt
  obtain ⟨h0, l, h1, h2, h3⟩ := h
  exact ⟨h0, l, h1, h2.kept hg (.inr (fun e => by have := (hlt _ e).1; omega)), h3.keep (fun p hp => World.cell?_of_block (hg.block p.block hp.2.1 (fun e => by injection e with e; have := hp.1; omega))) (fun b hb => ⟨hb.1, Nat.lt_of_lt_of_le hb.2.1 hg.size, hb.2.2⟩)⟩
theorem Acc.alloc {w : World} {lo n c : Nat} {A : Option Addr} {L : List Tr} (h : Acc w lo A n c L) (o : Obj) : Acc (w.alloc o) lo A n c L := by
  obtain ⟨h0, l, h1, h2, h3⟩ := h
  exact ⟨h0, l, h1, h2.alloc o, h3.keep (fun p hp => World.cell?_alloc_lt _ _ _ hp.2.1) (fun b hb => ⟨hb.1, by rw [alloc_size]; have := hb.2.1; omega, hb.2.2⟩)⟩
theorem Acc.lit {w : World} {lo b0 : Nat} {y : Int} {ys : ByteArray} {ky : Fr (Int × ByteArray)} {Ay : Option Addr} {cy : Nat} (hE : Sl rexC w b0 w.heap.size Ay ky) (h0 : lo ≤ b0) (hlo : lo ≤ w.heap.size) :
    Acc (w.alloc (.cells #[.int .i64 y, .string ys, .slice Ay ky.len cy] 30)) lo (some ⟨w.heap.size, 0, none⟩) 1 1 [((y, ys), ky)] := by
  refine ⟨rfl, [((y, ys), .slice Ay ky.len cy)], rfl, ?_, ?_⟩
  · exact World.ownsRow_lit w #[.int .i64 y, .string ys, .slice Ay ky.len cy] 1 hlo (by decide) rfl
  · refine (Fit.nil rexC _ _).snoc (hE.toP.keep (fun p hp => World.cell?_alloc_lt _ _ _ hp.2) (fun b hb => ⟨by omega, by rw [alloc_size]; omega, fun e => ?_⟩))
    have e' : w.heap.size = b := by simpa [Value.ownBlock] using e
    omega
theorem gr_push {a w w' : World} {g : Nat} {r : Option Nat} (hG : a.grownBy w (some g)) (hg : w.grownBy w' r) (hr : ∀ k, r = some k → a.heap.size ≤ k) : a.grownBy w' (some g) :=
  ⟨hg.os.trans hG.os, hg.tape.trans hG.tape, hg.output.trans hG.output, Nat.le_trans hG.size hg.size, fun k hk hk' => (hg.block k (Nat.lt_of_lt_of_le hk hG.size) (fun e => by have := hr _ e.symm; omega)).trans (hG.block k hk hk')⟩
theorem wpList_acc {P : Program} {w : World} {ops : Array Oper} {rest : List Oper} {o : Oper} {a : Act} {Q : Exit → Act → World → Prop} (hgd : o.guard = none) (s x : Operand) (t : TypeId)
    (ho : o.op = .call { callee := .builtin .append, args := #[s, x], argTypes := #[t, t] })
    (lo : Nat) (i : TypeInfo) (ht : P.underlying t = some (.slice 30)) (hi : P.info? 30 = some i) (hz : i.zero = some (.agg #[.int .i64 0, .string ⟨#[]⟩, .slice none 0 0])) (hsize : i.size = 3) (hby : i.bytes = 48)
    (A : Option Addr) (n c : Nat) (L : List Tr) (hs : a.eval s = .slice A n c) (hA : Acc w lo A n c L) (y : Int) (ys : ByteArray) (ky : Fr (Int × ByteArray)) (Ay : Option Addr) (cy b0 : Nat)
    (hx : a.eval x = .slice (some ⟨w.heap.size, 0, none⟩) 1 1) (hlo : lo ≤ w.heap.size) (hn : n + 1 ≤ 1099511627776) (hE : Sl rexC w b0 w.heap.size Ay ky) (hb0 : lo ≤ b0) (hvb : ∀ b, (Value.slice A n c).ownBlock = some b → b < b0)
    (h : ∀ A' c' w', Acc w' lo A' (n + 1) c' (L ++ [((y, ys), ky)]) → w.grownBy w' (Value.slice A n c).ownBlock → wpList P ops Q rest (a.put o.dst (.slice A' (n + 1) c')) w') :
    wpList P ops Q (o :: rest) a (w.alloc (.cells #[.int .i64 y, .string ys, .slice Ay ky.len cy] 30)) := by
  obtain ⟨h0, l, h1, hO, hF⟩ := hA
  refine wpList_pushB hgd s x t ho lo 30 i (.agg #[.int .i64 0, .string ⟨#[]⟩, .slice none 0 0]) 3 48 ht hi hz hsize hby rfl (by decide) _ _ _ hs hO [.int .i64 y, .string ys, .slice Ay ky.len cy] rfl hx rfl hn (by omega) hlo ?_
  intro v' w' hO7 hg7 hv7
  obtain ⟨A7, c7, rfl⟩ := (Row.mk hO7).form
  have sz7 := hg7.size
  refine h A7 c7 w' ⟨by rw [List.length_append, h0]; rfl, l ++ [((y, ys), .slice Ay ky.len cy)], by rw [List.length_append, h1]; rfl, ?_, ?_⟩ hg7
  · rw [← flat_snoc]
    exact hO7
  · have hE5 : SlP rexC w (fun b => lo ≤ b ∧ b < w.heap.size ∧ (Value.slice A n c).ownBlock ≠ some b) Ay ky := hE.toP.keep (fun _ _ => rfl) (fun b hb => ⟨by omega, hb.2, fun e => by have := hvb _ e; omega⟩)
    have hlt := hO.lt
    refine ((hF.snoc (a := (y, ys)) (c := cy) hE5).keep (w' := w') (P' := fun b => lo ≤ b ∧ b < w.heap.size ∧ (Value.slice A n c).ownBlock ≠ some b) (fun p hp => World.cell?_of_block (hg7.block p.block hp.2.1 (fun e => hp.2.2 e.symm))) (fun b hb => hb)).keep (fun _ _ => rfl) (fun b hb => ⟨hb.1, by omega, fun e => ?_⟩)
    rcases hv7 with h7 | ⟨k, h7, h8⟩
    · exact hb.2.2 (h7 ▸ e)
    · rw [h7] at e; injection e with e; omega
theorem Acc.done {w : World} {lo n c : Nat} {A : Option Addr} {L : List Tr} (h : Acc w lo A n c L) : n = (mkFr L).len ∧ Sl rexC w lo w.heap.size A (mkFr L) := by
  obtain ⟨h0, l, h1, hO, hF⟩ := h
  have hl : (mkFr L).len = n := by rw [mkFr_len, h0]
  subst h1
  obtain ⟨A', c', he, hS⟩ := row_of_fit (lo := lo) (hi := w.heap.size) (Row.mk hO) hF (fun b hb => ⟨hb.1, hb.2.1⟩)
  injection he with e1 e2 e3
  subst e1
  exact ⟨hl.symm, hS⟩
theorem Acc.one {w : World} {lo c : Nat} {A : Option Addr} {L : List Tr} (h : Acc w lo A 1 c L) : ∃ (k : Int) (t : ByteArray) (kids : Fr (Int × ByteArray)) (b : Nat) (A' : Option Addr) (c' : Nat), L = [((k, t), kids)] ∧ A = some ⟨b, 0, none⟩ ∧ lo ≤ b ∧ b < w.heap.size ∧ w.cell? ⟨b, 0, none⟩ = some (.int .i64 k) ∧ w.cell? ⟨b, 1, none⟩ = some (.string t) ∧ w.cell? ⟨b, 2, none⟩ = some (.slice A' kids.len c') ∧ Sl rexC w lo w.heap.size A' kids := by
  have hlt := h.lt
  obtain ⟨h0, l, h1, hO, hF⟩ := h
  obtain ⟨x, rfl⟩ := List.length_eq_one_iff.1 h0
  obtain ⟨u, rfl⟩ := List.length_eq_one_iff.1 h1
  obtain ⟨⟨k, t⟩, kids⟩ := x
  obtain ⟨A', c', q1, q2⟩ := hF.2 0 (by simp)
  simp only [List.getElem?_cons_zero, Option.some.injEq, List.getElem_cons_zero] at q1 q2
  subst q1
  obtain ⟨b, rfl, _, _⟩ := own_blk hO (by omega)
  have hb := hlt b rfl
  have cc := fun j hj => hO.cellAt j (by omega : j < 1 * 3)
  exact ⟨k, t, kids, b, A', c', rfl, rfl, hb.1, hb.2, cc 0 (by omega), cc 1 (by omega), cc 2 (by omega), q2.to (fun b hb => ⟨hb.1, hb.2.1⟩)⟩
/-- A row of one tree. -/
theorem sl_one {w : World} {lo hi vb : Nat} {k : Int} {t : ByteArray} {kids : Fr (Int × ByteArray)} {A : Option Addr} {c : Nat} (hN : Blk w vb 30 #[.int .i64 k, .string t, .slice A kids.len c]) (hS : Sl rexC w lo hi A kids) (h1 : lo ≤ vb) (h2 : vb < hi) : Sl rexC w lo hi (some ⟨vb, 0, none⟩) (.cons (k, t) kids .nil) := fun _ =>
  ⟨vb, 0, rfl, h1, h2, ⟨A, c, fun j u hu => by
    rw [Nat.zero_add, hN.cell]
    have e : (rexC (k, t) ++ [Value.slice A kids.len c])[j]? = ([Value.int .i64 k, .string t, .slice A kids.len c] : List Value)[j]? := rfl
    rw [e] at hu
    simpa using hu, hS⟩, trivial⟩
/-- How long a slice is. -/
def lenV : Value → Nat
  | .slice _ n _ => n
  | _ => 0
theorem node_one (k : Int) (x : Tr) : nodeP k [x] = x := rfl
theorem node_more {k : Int} {L : List Tr} (h : 2 ≤ L.length) : nodeP k L = ((k, ⟨#[]⟩), mkFr L) := by
  match L, h with
  | x :: y :: r, _ => rfl
theorem fin_some {k : Int} {L : List Tr} {q : Nat} (h : 1 ≤ L.length) : finP k (some (L, q)) = some (nodeP k L, q) := by
  match L, h with
  | x :: r, _ => rfl

end Go.Proofs.Ytdfcgnbklnceiaa
