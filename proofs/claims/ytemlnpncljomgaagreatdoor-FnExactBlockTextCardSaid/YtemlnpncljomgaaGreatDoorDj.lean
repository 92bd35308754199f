import Derived.Test.YtemlnpncljomgaaGreatDoorParP
namespace Go.Proofs.YtemlnpncljomgaaGreatDoor
open Go.RowKit

theorem alB (w : World) (o : Obj) {k : Nat} (h : k < w.heap.size) : (w.alloc o).heap[k]? = w.heap[k]? := Below.heap_alloc w o k h
section
variable (w : World)
def DjIn : Fr (Int × ByteArray) → Nat → Nat → List Nat → Prop
  | .nil, _, _, F => F = []
  | .cons a kids rest, b, off, F => ∃ F1 F2 A c, F = F1 ++ F2 ∧
      (∀ j u, (rexC a ++ [Value.slice A kids.len c])[j]? = some u → w.cell? ⟨b, off + j, none⟩ = some u ∧ w.frozen? ⟨b, off + j, none⟩ = false) ∧
      (kids.len = 0 → F1 = []) ∧ (0 < kids.len → ∃ b' F', A = some ⟨b', 0, none⟩ ∧ F1 = b' :: F' ∧ DjIn kids b' 0 F') ∧ DjIn rest b (off + 3) F2
def DjT (A : Option Addr) (fr : Fr (Int × ByteArray)) (F : List Nat) : Prop := (fr.len = 0 → F = []) ∧ (0 < fr.len → ∃ b F', A = some ⟨b, 0, none⟩ ∧ F = b :: F' ∧ DjIn w fr b 0 F')
def Dj (lo hi : Nat) (A : Option Addr) (fr : Fr (Int × ByteArray)) : Prop := ∃ F, DjT w A fr F ∧ F.Nodup ∧ ∀ b ∈ F, lo ≤ b ∧ b < hi
end
section
variable {w w' : World} {lo hi lo' hi' : Nat}
theorem DjIn.keep : ∀ (fr : Fr (Int × ByteArray)) (b off : Nat) (F : List Nat), (∀ k, k = b ∨ k ∈ F → w'.heap[k]? = w.heap[k]?) → DjIn w fr b off F → DjIn w' fr b off F
  | .nil, _, _, _, _, h => h
  | .cons a kids rest, b, off, F, hk, h => by
    obtain ⟨F1, F2, A, c, rfl, hc, h0, h1, h2⟩ := h
    refine ⟨F1, F2, A, c, rfl, fun j u hu => ?_, h0, fun hp => ?_, DjIn.keep rest b _ F2 (fun k h => hk k (h.imp id (List.mem_append_right F1))) h2⟩
    · have hb := hk b (.inl rfl)
      exact ⟨(World.cell?_of_block (a := ⟨b, off + j, none⟩) hb).trans (hc j u hu).1, (World.frozen?_of_block (a := ⟨b, off + j, none⟩) hb).trans (hc j u hu).2⟩
    · obtain ⟨b', F', e1, rfl, h3⟩ := h1 hp
      exact ⟨b', F', e1, rfl, DjIn.keep kids b' 0 F' (fun k h => hk k (.inr (List.mem_append_left F2 (List.mem_cons.2 h)))) h3⟩
theorem DjT.keep {A : Option Addr} {fr : Fr (Int × ByteArray)} {F : List Nat} (h : DjT w A fr F) (hk : ∀ k ∈ F, w'.heap[k]? = w.heap[k]?) : DjT w' A fr F :=
  ⟨h.1, fun hp => by
    obtain ⟨b, F', e1, rfl, h3⟩ := h.2 hp
    exact ⟨b, F', e1, rfl, DjIn.keep fr b 0 F' (fun k h => hk k (List.mem_cons.2 h)) h3⟩⟩
theorem Dj.keep {A : Option Addr} {fr : Fr (Int × ByteArray)} (h : Dj w lo hi A fr) (hk : ∀ p : Addr, lo ≤ p.block → p.block < hi → w'.heap[p.block]? = w.heap[p.block]?) (hl : lo' ≤ lo) (hh : hi ≤ hi') : Dj w' lo' hi' A fr := by
  obtain ⟨F, h1, h2, h3⟩ := h
  exact ⟨F, h1.keep (fun k hk' => hk ⟨k, 0, none⟩ (h3 k hk').1 (h3 k hk').2), h2, fun b hb => ⟨Nat.le_trans hl (h3 b hb).1, Nat.lt_of_lt_of_le (h3 b hb).2 hh⟩⟩
theorem Dj.setb {A : Option Addr} {fr : Fr (Int × ByteArray)} (h : Dj w lo hi A fr) {b j : Nat} (hp : b < lo ∨ hi ≤ b) (u : Value) : Dj (w.setCell ⟨b, j, none⟩ u) lo hi A fr :=
  h.keep (fun q h1 h2 => Below.heap_setCell w ⟨b, j, none⟩ u q.block (by show q.block ≠ b; omega)) (Nat.le_refl _) (Nat.le_refl _)
theorem Dj.more {A : Option Addr} {fr : Fr (Int × ByteArray)} (h : Dj w lo hi A fr) (hl : lo' ≤ lo) (hh : hi ≤ hi') : Dj w lo' hi' A fr := h.keep (fun _ _ _ => rfl) hl hh
theorem Dj.grew {A : Option Addr} {fr : Fr (Int × ByteArray)} {row : Option Nat} (h : Dj w lo hi A fr) (hg : w.grownBy w' row) (hr : ∀ k, row = some k → k < lo ∨ hi ≤ k) (hh : hi ≤ w.heap.size) : Dj w' lo hi A fr :=
  h.keep (fun p h1 h2 => hg.block p.block (by omega) (fun e => by have := hr _ e.symm; omega)) (Nat.le_refl _) (Nat.le_refl _)
theorem Dj.below {A : Option Addr} {fr : Fr (Int × ByteArray)} {B : Nat} (h : Dj w lo hi A fr) (hb : Below B w w') (hB : hi ≤ B) : Dj w' lo hi A fr := h.keep (fun p _ h2 => hb.block p.block (by omega)) (Nat.le_refl _) (Nat.le_refl _)
theorem djNil (w : World) (lo hi : Nat) (A : Option Addr) : Dj w lo hi A .nil := ⟨[], ⟨fun _ => rfl, fun h => absurd h (Nat.lt_irrefl 0)⟩, List.nodup_nil, fun b hb => by cases hb⟩
theorem DjIn.in_ : ∀ (fr : Fr (Int × ByteArray)) (b off : Nat) (F : List Nat), (∀ k ∈ F, lo ≤ k ∧ k < hi) → DjIn w fr b off F → FrIn rexC w lo hi fr b off
  | .nil, _, _, _, _, _ => trivial
  | .cons a kids rest, b, off, F, hF, h => by
    obtain ⟨F1, F2, A, c, rfl, hc, h0, h1, h2⟩ := h
    refine ⟨⟨A, c, fun j u hu => (hc j u hu).1, fun hp => ?_⟩, DjIn.in_ rest b _ F2 (fun k hk => hF k (List.mem_append_right F1 hk)) h2⟩
    obtain ⟨b', F', e1, rfl, h3⟩ := h1 hp
    have hb := hF b' (List.mem_append_left F2 (List.mem_cons_self ..))
    exact ⟨b', 0, e1, hb.1, hb.2, DjIn.in_ kids b' 0 F' (fun k hk => hF k (List.mem_append_left F2 (List.mem_cons_of_mem _ hk))) h3⟩
theorem Dj.sl {A : Option Addr} {fr : Fr (Int × ByteArray)} (h : Dj w lo hi A fr) : Sl rexC w lo hi A fr := fun hp => by
  obtain ⟨F, h1, _, h3⟩ := h
  obtain ⟨b, F', e1, rfl, h4⟩ := h1.2 hp
  have hb := h3 b (List.mem_cons_self ..)
  exact ⟨b, 0, e1, hb.1, hb.2, DjIn.in_ fr b 0 F' (fun k hk => h3 k (List.mem_cons_of_mem _ hk)) h4⟩
def FitD (w : World) : List Tr → List ((Int × ByteArray) × Value) → List Nat → Prop
  | [], [], F => F = []
  | x :: L, u :: l, F => ∃ F1 F2 A c, F = F1 ++ F2 ∧ u = (x.1, Value.slice A x.2.len c) ∧ DjT w A x.2 F1 ∧ FitD w L l F2
  | _, _, _ => False
theorem FitD.keep : ∀ {L : List Tr} {l : List ((Int × ByteArray) × Value)} {F : List Nat}, FitD w L l F → (∀ k ∈ F, w'.heap[k]? = w.heap[k]?) → FitD w' L l F
  | [], [], _, h, _ => h
  | x :: L, u :: l, F, h, hk => by
    obtain ⟨F1, F2, A, c, rfl, e, h1, h2⟩ := h
    exact ⟨F1, F2, A, c, rfl, e, h1.keep (fun k h => hk k (List.mem_append_left F2 h)), h2.keep (fun k h => hk k (List.mem_append_right F1 h))⟩
  | [], _ :: _, _, h, _ => h
  | _ :: _, [], _, h, _ => h
theorem FitD.snoc {x : Tr} {A : Option Addr} {c : Nat} {F1 : List Nat} (hx : DjT w A x.2 F1) : ∀ {L : List Tr} {l : List ((Int × ByteArray) × Value)} {F : List Nat}, FitD w L l F → FitD w (L ++ [x]) (l ++ [(x.1, Value.slice A x.2.len c)]) (F ++ F1)
  | [], [], F, h => by
    subst h
    exact ⟨F1, [], A, c, by simp, rfl, hx, rfl⟩
  | y :: L, u :: l, F, h => by
    obtain ⟨G1, G2, A', c', rfl, e, h1, h2⟩ := h
    exact ⟨G1, G2 ++ F1, A', c', by rw [List.append_assoc], e, h1, FitD.snoc hx h2⟩
  | [], _ :: _, _, h => h.elim
  | _ :: _, [], _, h => h.elim
theorem FitD.in_ {b : Nat} : ∀ {L : List Tr} {l : List ((Int × ByteArray) × Value)} {F : List Nat} (off : Nat), FitD w L l F → (∀ j u, (flat (rC rexC) l)[j]? = some u → w.cell? ⟨b, off + j, none⟩ = some u ∧ w.frozen? ⟨b, off + j, none⟩ = false) → DjIn w (mkFr L) b off F
  | [], [], _, _, h, _ => h
  | x :: L, u :: l, F, off, h, hc => by
    obtain ⟨F1, F2, A, c, rfl, rfl, h1, h2⟩ := h
    rw [flat_cons] at hc
    have hl : (rC rexC (x.1, Value.slice A x.2.len c)).length = 3 := rfl
    refine ⟨F1, F2, A, c, rfl, fun j u hu => hc j u ?_, h1.1, h1.2, FitD.in_ (off + 3) h2 (fun j u hu => ?_)⟩
    · have hj : j < (rC rexC (x.1, Value.slice A x.2.len c)).length := by
        rcases Nat.lt_or_ge j (rC rexC (x.1, Value.slice A x.2.len c)).length with h | h
        · exact h
        · exact absurd hu (by rw [show (rexC x.1 ++ [Value.slice A x.2.len c])[j]? = none from List.getElem?_eq_none h]; simp)
      rw [List.getElem?_append_left hj]
      exact hu
    · have := hc (3 + j) u (by
        rw [List.getElem?_append_right (by rw [hl]; omega), hl, Nat.add_sub_cancel_left]
        exact hu)
      rw [← Nat.add_assoc] at this
      exact this
  | [], _ :: _, _, _, h, _ => h.elim
  | _ :: _, [], _, _, h, _ => h.elim
theorem FitD.len : ∀ {L : List Tr} {l : List ((Int × ByteArray) × Value)} {F : List Nat}, FitD w L l F → l.length = L.length
  | [], [], _, _ => rfl
  | x :: L, u :: l, F, h => by
    obtain ⟨F1, F2, A, c, _, _, _, h2⟩ := h
    rw [List.length_cons, List.length_cons, h2.len]
  | [], _ :: _, _, h => h.elim
  | _ :: _, [], _, h => h.elim
def Acc (w : World) (lo hi : Nat) (A : Option Addr) (n c : Nat) (L : List Tr) : Prop :=
  L.length = n ∧ hi ≤ w.heap.size ∧ ∃ (l : List ((Int × ByteArray) × Value)) (F : List Nat), l.length = n ∧ w.ownsRow lo 82 3 (.slice A n c) n (flat (rC rexC) l) ∧ (∀ k, (Value.slice A n c).ownBlock = some k → k < hi) ∧ FitD w L l F ∧ F.Nodup ∧ ∀ b ∈ F, lo ≤ b ∧ b < hi ∧ (Value.slice A n c).ownBlock ≠ some b
section
variable {n c : Nat} {A : Option Addr} {L : List Tr}
theorem Acc.nil (w : World) (lo : Nat) : Acc w lo w.heap.size none 0 0 [] := ⟨rfl, Nat.le_refl _, [], [], rfl, World.ownsRow_nil _ _ _ _, fun k hk => (by cases hk), rfl, List.nodup_nil, fun b hb => (by cases hb)⟩
theorem Acc.lt (h : Acc w lo hi A n c L) : ∀ k, (Value.slice A n c).ownBlock = some k → lo ≤ k ∧ k < hi := fun k hk => by
  obtain ⟨_, _, l, F, _, h1, h2, _⟩ := h
  exact ⟨(h1.lt k hk).1, h2 k hk⟩
theorem Acc.hi_le (h : Acc w lo hi A n c L) : hi ≤ w.heap.size := h.2.1
theorem Acc.grown {g : Nat} (h : Acc w lo hi A n c L) (hg : w.grownBy w' (some g)) (hlo : g < lo) : Acc w' lo hi A n c L := by
  have hlt := h.lt
  obtain ⟨h0, hh, l, F, h1, h2, h3, h4, h5, h6⟩ := h
  exact ⟨h0, Nat.le_trans hh hg.size, l, F, h1, h2.kept hg (.inr (fun e => by have := (hlt _ e).1; omega)), h3, h4.keep (fun k hk => hg.block k (by have := h6 k hk; omega) (fun e => by injection e with e; have := h6 k hk; omega)), h5, h6⟩
theorem Acc.lit {b0 : Nat} {y : Int} {ys : ByteArray} {ky : Fr (Int × ByteArray)} {Ay : Option Addr} {cy : Nat} (hE : Dj w b0 w.heap.size Ay ky) (h0 : lo ≤ b0) (hlo : lo ≤ w.heap.size) :
    Acc (w.alloc (.cells #[.int .i64 y, .string ys, .slice Ay ky.len cy] 82)) lo (w.alloc (.cells #[.int .i64 y, .string ys, .slice Ay ky.len cy] 82)).heap.size (some ⟨w.heap.size, 0, none⟩) 1 1 [((y, ys), ky)] := by
  obtain ⟨F, e1, e2, e3⟩ := hE
  have hs := alloc_size w (.cells #[.int .i64 y, .string ys, .slice Ay ky.len cy] 82)
  refine ⟨rfl, Nat.le_refl _, [((y, ys), .slice Ay ky.len cy)], F, rfl, World.ownsRow_lit w #[.int .i64 y, .string ys, .slice Ay ky.len cy] 1 hlo (by decide) rfl, fun k hk => ?_, ?_, e2, fun b hb => ?_⟩
  · have e' : w.heap.size = k := by simpa [Value.ownBlock] using hk
    omega
  · have := FitD.snoc (x := ((y, ys), ky)) (c := cy) (L := []) (l := []) (F := []) (e1.keep (w' := w.alloc (.cells #[.int .i64 y, .string ys, .slice Ay ky.len cy] 82)) (fun k hk => alB _ _ (e3 k hk).2)) rfl
    simpa using this
  · have := e3 b hb
    refine ⟨by omega, by omega, fun e => ?_⟩
    have e' : w.heap.size = b := by simpa [Value.ownBlock] using e
    omega
theorem gr_push {a : World} {g : Nat} {r : Option Nat} (hG : a.grownBy w (some g)) (hg : w.grownBy w' r) (hr : ∀ k, r = some k → a.heap.size ≤ k) : a.grownBy w' (some g) :=
  ⟨hg.os.trans hG.os, hg.tape.trans hG.tape, hg.output.trans hG.output, Nat.le_trans hG.size hg.size, fun k hk hk' => (hg.block k (Nat.lt_of_lt_of_le hk hG.size) (fun e => by have := hr _ e.symm; omega)).trans (hG.block k hk hk')⟩
theorem wpList_acc {P : Program} {ops : Array Oper} {rest : List Oper} {o : Oper} {a : Act} {Q : Exit → Act → World → Prop} (hgd : o.guard = none) (s x : Operand) (t : TypeId)
    (ho : o.op = .call { callee := .builtin .append, args := #[s, x], argTypes := #[t, t] })
    (lo : Nat) (i : TypeInfo) (ht : P.underlying t = some (.slice 82)) (hi0 : P.info? 82 = some i) (hz : i.zero = some (.agg #[.int .i64 0, .string ⟨#[]⟩, .slice none 0 0])) (hsize : i.size = 3) (hby : i.bytes = 48)
    (A : Option Addr) (n c : Nat) (L : List Tr) (hs : a.eval s = .slice A n c) (hA : Acc w lo hi A n c L) (y : Int) (ys : ByteArray) (ky : Fr (Int × ByteArray)) (Ay : Option Addr) (cy b0 : Nat)
    (hx : a.eval x = .slice (some ⟨w.heap.size, 0, none⟩) 1 1) (hlo : lo ≤ w.heap.size) (hn : n + 1 ≤ 1099511627776) (hE : Dj w b0 w.heap.size Ay ky) (hb0 : lo ≤ b0) (hvb : hi ≤ b0)
    (h : ∀ A' c' w', Acc w' lo w'.heap.size A' (n + 1) c' (L ++ [((y, ys), ky)]) → w.grownBy w' (Value.slice A n c).ownBlock → wpList P ops Q rest (a.put o.dst (.slice A' (n + 1) c')) w') :
    wpList P ops Q (o :: rest) a (w.alloc (.cells #[.int .i64 y, .string ys, .slice Ay ky.len cy] 82)) := by
  obtain ⟨h0, hh, l, F, h1, hO, hv, hF, hN, hB⟩ := hA
  obtain ⟨F1, d1, d2, d3⟩ := hE
  refine wpList_pushB hgd s x t ho lo 82 i (.agg #[.int .i64 0, .string ⟨#[]⟩, .slice none 0 0]) 3 48 ht hi0 hz hsize hby rfl (by decide) _ _ _ hs hO [.int .i64 y, .string ys, .slice Ay ky.len cy] rfl hx rfl hn (by omega) hlo ?_
  intro v' w' hO7 hg7 hv7
  obtain ⟨A7, c7, rfl⟩ := (Row.mk hO7).form
  have sz7 := hg7.size
  refine h A7 c7 w' ⟨by rw [List.length_append, h0]; rfl, Nat.le_refl _, l ++ [((y, ys), .slice Ay ky.len cy)], F ++ F1, by rw [List.length_append, h1]; rfl, ?_, fun k hk => (hO7.lt k hk).2, ?_, ?_, fun b hb => ?_⟩ hg7
  · rw [← flat_snoc]
    exact hO7
  · exact FitD.snoc (x := ((y, ys), ky)) (d1.keep (fun k hk => hg7.block k (d3 k hk).2 (fun e => by have h1 := hv k e.symm; have h2 := d3 k hk; omega))) (hF.keep (fun k hk => hg7.block k (by have := hB k hk; omega) (fun e => (hB k hk).2.2 e.symm)))
  · exact List.nodup_append.2 ⟨hN, d2, fun a ha b hb e => by have h1 := hB a ha; have h2 := d3 b hb; omega⟩
  · have hb2 : (lo ≤ b ∧ b < w.heap.size) ∧ (Value.slice A n c).ownBlock ≠ some b := by
      rcases List.mem_append.1 hb with h | h
      · have := hB b h
        exact ⟨by omega, this.2.2⟩
      · have := d3 b h
        exact ⟨by omega, fun e => by have := hv b e; omega⟩
    refine ⟨hb2.1.1, by omega, fun e => ?_⟩
    rcases hv7 with h7 | ⟨k, h7, h8⟩
    · exact hb2.2 (h7 ▸ e)
    · rw [h7] at e; injection e with e; omega
theorem Acc.done (h : Acc w lo hi A n c L) : n = (mkFr L).len ∧ Dj w lo w.heap.size A (mkFr L) := by
  have hlt := h.lt
  obtain ⟨h0, hh, l, F, h1, hO, hv, hF, hN, hB⟩ := h
  have hl : (mkFr L).len = n := by rw [mkFr_len, h0]
  refine ⟨hl.symm, ?_⟩
  rcases Nat.eq_zero_or_pos n with hn | hn
  · have hL : L = [] := List.eq_nil_of_length_eq_zero (by omega)
    subst hL
    exact djNil _ _ _ _
  · obtain ⟨g, rfl, _, _⟩ := own_blk hO hn
    have hg := hlt g rfl
    refine ⟨g :: F, ⟨fun h => by omega, fun _ => ⟨g, F, rfl, rfl, hF.in_ 0 (fun j u hu => ?_)⟩⟩, List.nodup_cons.2 ⟨fun hm => (hB g hm).2.2 rfl, hN⟩, fun b hb => ?_⟩
    · have hj : j < n * 3 := by
        have := hO.1
        rcases Nat.lt_or_ge j (n * 3) with h | h
        · exact h
        · rw [List.getElem?_eq_none (by omega)] at hu; cases hu
      rw [Nat.zero_add]
      exact ⟨(hO.cellAt j hj).trans hu, hO.frozenAt j⟩
    · rcases List.mem_cons.1 hb with rfl | hb
      · exact ⟨hg.1, by omega⟩
      · have := hB b hb
        exact ⟨this.1, by omega⟩
theorem Acc.one (h : Acc w lo hi A 1 c L) : ∃ (k : Int) (t : ByteArray) (kids : Fr (Int × ByteArray)) (b : Nat) (A' : Option Addr) (c' : Nat), L = [((k, t), kids)] ∧ A = some ⟨b, 0, none⟩ ∧ lo ≤ b ∧ b < w.heap.size ∧ w.cell? ⟨b, 0, none⟩ = some (.int .i64 k) ∧ w.cell? ⟨b, 1, none⟩ = some (.string t) ∧ w.cell? ⟨b, 2, none⟩ = some (.slice A' kids.len c') ∧ Dj w lo w.heap.size A' kids := by
  have hlt := h.lt
  obtain ⟨h0, hh, l, F, h1, hO, hv, hF, hN, hB⟩ := h
  obtain ⟨x, rfl⟩ := List.length_eq_one_iff.1 h0
  obtain ⟨u, rfl⟩ := List.length_eq_one_iff.1 h1
  obtain ⟨⟨k, t⟩, kids⟩ := x
  obtain ⟨F1, F2, A', c', rfl, rfl, q1, q2⟩ := hF
  obtain ⟨b, rfl, _, _⟩ := own_blk hO (by omega)
  have hb := hlt b rfl
  have cc := fun j hj => hO.cellAt j (by omega : j < 1 * 3)
  have e2 : F2 = [] := q2
  subst e2
  rw [List.append_nil] at hN hB
  exact ⟨k, t, kids, b, A', c', rfl, rfl, hb.1, by omega, cc 0 (by omega), cc 1 (by omega), cc 2 (by omega), F1, q1, hN, fun b hb => ⟨(hB b hb).1, by have := hB b hb; omega⟩⟩
theorem dj_one {vb : Nat} {k : Int} {t : ByteArray} {kids : Fr (Int × ByteArray)} {A : Option Addr} {c : Nat} (hN : Blk w vb 82 #[.int .i64 k, .string t, .slice A kids.len c]) (hS : Dj w lo hi A kids) (hv : vb < lo ∨ hi ≤ vb) (h1 : lo' ≤ vb) (h2 : vb < hi') (h3 : lo' ≤ lo) (h4 : hi ≤ hi') : Dj w lo' hi' (some ⟨vb, 0, none⟩) (.cons (k, t) kids .nil) := by
  obtain ⟨F, e1, e2, e3⟩ := hS
  refine ⟨vb :: F, ⟨fun h => by simp [Fr.len] at h, fun _ => ⟨vb, F, rfl, rfl, F, [], A, c, by simp, fun j u hu => ⟨?_, ?_⟩, e1.1, e1.2, rfl⟩⟩, List.nodup_cons.2 ⟨fun hm => by have := e3 vb hm; omega, e2⟩, fun b hb => ?_⟩
  · rw [Nat.zero_add, hN.cell]
    have e : (rexC (k, t) ++ [Value.slice A kids.len c])[j]? = ([Value.int .i64 k, .string t, .slice A kids.len c] : List Value)[j]? := rfl
    rw [e] at hu
    simpa using hu
  · rw [Nat.zero_add, hN.frozen]
  · rcases List.mem_cons.1 hb with rfl | hb
    · exact ⟨h1, h2⟩
    · have := e3 b hb
      omega
end
end

end Go.Proofs.YtemlnpncljomgaaGreatDoor
