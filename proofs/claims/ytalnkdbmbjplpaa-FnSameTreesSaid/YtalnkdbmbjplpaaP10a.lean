/- Rows of rules and of functions in memory, frozen or still worked on. No program in sight but the cursor of a draw. -/
import Derived.Test.YtalnkdbmbjplpaaS9a
namespace Go.Proofs.Ytalnkdbmbjplpaa
open Go.RowKit

/-- A rule: its kind, its term, its statements. -/
abbrev TR := Int × (Int × Int × ByteArray) × Fr (Int × Int × ByteArray) × St
abbrev VR := Int × (Int × Int × ByteArray) × Value × Value
/-- A rule's cells. -/
def rlC (x : VR) : List Value := [.int .i64 x.1, .int .i64 x.2.1.1, .int .i64 x.2.1.2.1, .string x.2.1.2.2, x.2.2.1, x.2.2.2]
theorem rlC_len (x : VR) : (rlC x).length = 6 := rfl
/-- A function: its name, its parameters, its statements. -/
abbrev TF := ByteArray × List ByteArray × St
abbrev VF := ByteArray × Value × Value
/-- A function's cells. -/
def fnC (x : VF) : List Value := [.string x.1, x.2.1, x.2.2]
theorem fnC_len (x : VF) : (fnC x).length = 3 := rfl
section
variable (w : World) (P : Nat → Prop)
/-- A slice value that holds texts. -/
def StrP (A : Option Addr) (ss : List ByteArray) : Prop := 0 < ss.length → ∃ b o, A = some ⟨b, o, none⟩ ∧ P b ∧ ∀ j u, (ss.map Value.string)[j]? = some u → w.cell? ⟨b, o + j, none⟩ = some u
/-- A list of labels and slices is that of rules. -/
def FitR (L : List TR) (l : List VR) : Prop :=
  l.length = L.length ∧ ∀ i (h : i < L.length), ∃ X cx A ca, l[i]? = some (L[i].1, L[i].2.1, .slice X L[i].2.2.1.len cx, .slice A L[i].2.2.2.len ca) ∧ SlP exprC w P X L[i].2.2.1 ∧ SlSP w P A L[i].2.2.2
/-- A list of labels and slices is that of functions. -/
def FitF (L : List TF) (l : List VF) : Prop :=
  l.length = L.length ∧ ∀ i (h : i < L.length), ∃ N cn A ca, l[i]? = some (L[i].1, .slice N L[i].2.1.length cn, .slice A L[i].2.2.len ca) ∧ StrP w P N L[i].2.1 ∧ SlSP w P A L[i].2.2
/-- A slice value that holds rules. -/
def RulP (A : Option Addr) (L : List TR) : Prop := 0 < L.length → ∃ b o l, A = some ⟨b, o, none⟩ ∧ P b ∧ FitR w P L l ∧ ∀ j u, (flat rlC l)[j]? = some u → w.cell? ⟨b, o + j, none⟩ = some u
/-- A slice value that holds functions. -/
def FunP (A : Option Addr) (L : List TF) : Prop := 0 < L.length → ∃ b o l, A = some ⟨b, o, none⟩ ∧ P b ∧ FitF w P L l ∧ ∀ j u, (flat fnC l)[j]? = some u → w.cell? ⟨b, o + j, none⟩ = some u
end
section
variable {B g : Nat} {U U' P P' : Nat → Prop} {w w' : World} {A : Option Addr}
theorem StrP.keep {ss : List ByteArray} (h : StrP w P A ss) (hk : ∀ p : Addr, P p.block → w'.cell? p = w.cell? p) (hP : ∀ b, P b → P' b) : StrP w' P' A ss := fun hp => by
  obtain ⟨b, o, e, h1, h2⟩ := h hp
  exact ⟨b, o, e, hP b h1, fun j u hu => (hk ⟨b, o + j, none⟩ h1).trans (h2 j u hu)⟩
theorem FitR.keep {L : List TR} {l : List VR} (h : FitR w P L l) (hk : ∀ p : Addr, P p.block → w'.cell? p = w.cell? p) (hP : ∀ b, P b → P' b) : FitR w' P' L l := ⟨h.1, fun i hi => by
  obtain ⟨X, cx, A, ca, h1, h2, h3⟩ := h.2 i hi
  exact ⟨X, cx, A, ca, h1, h2.keep hk hP, h3.keep hk hP⟩⟩
theorem FitF.keep {L : List TF} {l : List VF} (h : FitF w P L l) (hk : ∀ p : Addr, P p.block → w'.cell? p = w.cell? p) (hP : ∀ b, P b → P' b) : FitF w' P' L l := ⟨h.1, fun i hi => by
  obtain ⟨N, cn, A, ca, h1, h2, h3⟩ := h.2 i hi
  exact ⟨N, cn, A, ca, h1, h2.keep hk hP, h3.keep hk hP⟩⟩
theorem RulP.keep {L : List TR} (h : RulP w P A L) (hk : ∀ p : Addr, P p.block → w'.cell? p = w.cell? p) (hP : ∀ b, P b → P' b) : RulP w' P' A L := fun hp => by
  obtain ⟨b, o, l, e, h1, h2, h3⟩ := h hp
  exact ⟨b, o, l, e, hP b h1, h2.keep hk hP, fun j u hu => (hk ⟨b, o + j, none⟩ h1).trans (h3 j u hu)⟩
theorem FunP.keep {L : List TF} (h : FunP w P A L) (hk : ∀ p : Addr, P p.block → w'.cell? p = w.cell? p) (hP : ∀ b, P b → P' b) : FunP w' P' A L := fun hp => by
  obtain ⟨b, o, l, e, h1, h2, h3⟩ := h hp
  exact ⟨b, o, l, e, hP b h1, h2.keep hk hP, fun j u hu => (hk ⟨b, o + j, none⟩ h1).trans (h3 j u hu)⟩
theorem FitR.gro {L : List TR} {l : List VR} (h : FitR w U L l) (c : Cu B g U w) (k : Gro g U w U' w') : FitR w' U' L l := h.keep (fun _ hp => k.cell c.2.1 c.2.2 hp) k.sub
theorem FitR.alloc {L : List TR} {l : List VR} (h : FitR w U L l) (c : Cu B g U w) (o : Obj) : FitR (w.alloc o) U L l := h.keep (fun p hp => World.cell?_alloc_lt w o p (c.2.2 _ hp)) (fun _ h => h)
theorem FitR.below {L : List TR} {l : List VR} (h : FitR w U L l) (c : Cu B g U w) (hb : Below w.heap.size w w') : FitR w' U L l := h.keep (fun _ hp => hb.cell (c.2.2 _ hp)) (fun _ h => h)
theorem FitR.setb {L : List TR} {l : List VR} (h : FitR w U L l) {b j : Nat} (hb : ¬ U b) (u : Value) : FitR (w.setCell ⟨b, j, none⟩ u) U L l := h.keep (fun _ hp => World.cell?_setCell_other w _ _ _ (fun e => hb (by subst e; exact hp))) (fun _ h => h)
theorem FitR.row {L : List TR} {l : List VR} {row : Option Nat} (h : FitR w U L l) (c : Cu B g U w) (hg : w.grownBy w' row) (hr : ∀ k, row = some k → ¬ U k) : FitR w' U L l := h.keep (fun p hp => World.cell?_of_block (hg.block p.block (c.2.2 _ hp) (fun e => hr _ e.symm hp))) (fun _ h => h)
theorem FitR.more {L : List TR} {l : List VR} (h : FitR w U L l) (hU : ∀ b, U b → U' b) : FitR w U' L l := h.keep (fun _ _ => rfl) hU
theorem FitF.gro {L : List TF} {l : List VF} (h : FitF w U L l) (c : Cu B g U w) (k : Gro g U w U' w') : FitF w' U' L l := h.keep (fun _ hp => k.cell c.2.1 c.2.2 hp) k.sub
theorem FitF.alloc {L : List TF} {l : List VF} (h : FitF w U L l) (c : Cu B g U w) (o : Obj) : FitF (w.alloc o) U L l := h.keep (fun p hp => World.cell?_alloc_lt w o p (c.2.2 _ hp)) (fun _ h => h)
theorem FitF.below {L : List TF} {l : List VF} (h : FitF w U L l) (c : Cu B g U w) (hb : Below w.heap.size w w') : FitF w' U L l := h.keep (fun _ hp => hb.cell (c.2.2 _ hp)) (fun _ h => h)
theorem FitF.setb {L : List TF} {l : List VF} (h : FitF w U L l) {b j : Nat} (hb : ¬ U b) (u : Value) : FitF (w.setCell ⟨b, j, none⟩ u) U L l := h.keep (fun _ hp => World.cell?_setCell_other w _ _ _ (fun e => hb (by subst e; exact hp))) (fun _ h => h)
theorem FitF.row {L : List TF} {l : List VF} {row : Option Nat} (h : FitF w U L l) (c : Cu B g U w) (hg : w.grownBy w' row) (hr : ∀ k, row = some k → ¬ U k) : FitF w' U L l := h.keep (fun p hp => World.cell?_of_block (hg.block p.block (c.2.2 _ hp) (fun e => hr _ e.symm hp))) (fun _ h => h)
theorem FitF.more {L : List TF} {l : List VF} (h : FitF w U L l) (hU : ∀ b, U b → U' b) : FitF w U' L l := h.keep (fun _ _ => rfl) hU
theorem FunP.gro {L : List TF} (h : FunP w U A L) (c : Cu B g U w) (k : Gro g U w U' w') : FunP w' U' A L := h.keep (fun _ hp => k.cell c.2.1 c.2.2 hp) k.sub
theorem FunP.alloc {L : List TF} (h : FunP w U A L) (c : Cu B g U w) (o : Obj) : FunP (w.alloc o) U A L := h.keep (fun p hp => World.cell?_alloc_lt w o p (c.2.2 _ hp)) (fun _ h => h)
theorem FunP.below {L : List TF} (h : FunP w U A L) (c : Cu B g U w) (hb : Below w.heap.size w w') : FunP w' U A L := h.keep (fun _ hp => hb.cell (c.2.2 _ hp)) (fun _ h => h)
theorem FunP.setb {L : List TF} (h : FunP w U A L) {b j : Nat} (hb : ¬ U b) (u : Value) : FunP (w.setCell ⟨b, j, none⟩ u) U A L := h.keep (fun _ hp => World.cell?_setCell_other w _ _ _ (fun e => hb (by subst e; exact hp))) (fun _ h => h)
theorem FunP.row {L : List TF} {row : Option Nat} (h : FunP w U A L) (c : Cu B g U w) (hg : w.grownBy w' row) (hr : ∀ k, row = some k → ¬ U k) : FunP w' U A L := h.keep (fun p hp => World.cell?_of_block (hg.block p.block (c.2.2 _ hp) (fun e => hr _ e.symm hp))) (fun _ h => h)
theorem FunP.more {L : List TF} (h : FunP w U A L) (hU : ∀ b, U b → U' b) : FunP w U' A L := h.keep (fun _ _ => rfl) hU
theorem RulP.gro {L : List TR} (h : RulP w U A L) (c : Cu B g U w) (k : Gro g U w U' w') : RulP w' U' A L := h.keep (fun _ hp => k.cell c.2.1 c.2.2 hp) k.sub
theorem RulP.alloc {L : List TR} (h : RulP w U A L) (c : Cu B g U w) (o : Obj) : RulP (w.alloc o) U A L := h.keep (fun p hp => World.cell?_alloc_lt w o p (c.2.2 _ hp)) (fun _ h => h)
theorem RulP.below {L : List TR} (h : RulP w U A L) (c : Cu B g U w) (hb : Below w.heap.size w w') : RulP w' U A L := h.keep (fun _ hp => hb.cell (c.2.2 _ hp)) (fun _ h => h)
theorem RulP.setb {L : List TR} (h : RulP w U A L) {b j : Nat} (hb : ¬ U b) (u : Value) : RulP (w.setCell ⟨b, j, none⟩ u) U A L := h.keep (fun _ hp => World.cell?_setCell_other w _ _ _ (fun e => hb (by subst e; exact hp))) (fun _ h => h)
theorem RulP.row {L : List TR} {row : Option Nat} (h : RulP w U A L) (c : Cu B g U w) (hg : w.grownBy w' row) (hr : ∀ k, row = some k → ¬ U k) : RulP w' U A L := h.keep (fun p hp => World.cell?_of_block (hg.block p.block (c.2.2 _ hp) (fun e => hr _ e.symm hp))) (fun _ h => h)
theorem RulP.more {L : List TR} (h : RulP w U A L) (hU : ∀ b, U b → U' b) : RulP w U' A L := h.keep (fun _ _ => rfl) hU
theorem RulP.all {L : List TR} (h : RulP w U A L) (c : Cu B g U w) : RulP w (fun b => b < w.heap.size) A L := h.more c.2.2
theorem FunP.all {L : List TF} (h : FunP w U A L) (c : Cu B g U w) : FunP w (fun b => b < w.heap.size) A L := h.more c.2.2
theorem FitR.nil (w : World) (P : Nat → Prop) : FitR w P [] [] := ⟨rfl, fun _ h => absurd h (Nat.not_lt_zero _)⟩
theorem FitR.snoc {L : List TR} {l : List VR} (h : FitR w P L l) {k : Int} {a : Int × Int × ByteArray} {x : Fr (Int × Int × ByteArray)} {p : St} {X A : Option Addr} {cx ca : Nat} (hX : SlP exprC w P X x) (hA : SlSP w P A p) : FitR w P (L ++ [(k, a, x, p)]) (l ++ [(k, a, .slice X x.len cx, .slice A p.len ca)]) := by
  refine ⟨by rw [List.length_append, List.length_append, h.1]; rfl, fun i hi => ?_⟩
  rcases Nat.lt_or_ge i L.length with h1 | h1
  · rw [List.getElem?_append_left (by rw [h.1]; exact h1), List.getElem_append_left h1]
    exact h.2 i h1
  · have e : i = L.length := by rw [List.length_append] at hi; have : [(k, a, x, p)].length = 1 := rfl; omega
    subst e
    rw [List.getElem?_append_right (by rw [h.1]; exact Nat.le_refl _), h.1, Nat.sub_self, List.getElem_append_right (Nat.le_refl _)]
    exact ⟨X, cx, A, ca, by simp, by simpa using hX, by simpa using hA⟩
theorem FitR.cons {L : List TR} {l : List VR} (h : FitR w P L l) {k : Int} {a : Int × Int × ByteArray} {x : Fr (Int × Int × ByteArray)} {p : St} {X A : Option Addr} {cx ca : Nat} (hX : SlP exprC w P X x) (hA : SlSP w P A p) : FitR w P ((k, a, x, p) :: L) ((k, a, .slice X x.len cx, .slice A p.len ca) :: l) :=
  ⟨by rw [List.length_cons, List.length_cons, h.1], fun i hi => by
    cases i with
    | zero => exact ⟨X, cx, A, ca, rfl, hX, hA⟩
    | succ i => exact h.2 i (by simpa using hi)⟩
theorem FitF.nil (w : World) (P : Nat → Prop) : FitF w P [] [] := ⟨rfl, fun _ h => absurd h (Nat.not_lt_zero _)⟩
theorem FitF.cons {L : List TF} {l : List VF} (h : FitF w P L l) {s : ByteArray} {ss : List ByteArray} {p : St} {N A : Option Addr} {cn ca : Nat} (hN : StrP w P N ss) (hA : SlSP w P A p) : FitF w P ((s, ss, p) :: L) ((s, .slice N ss.length cn, .slice A p.len ca) :: l) :=
  ⟨by rw [List.length_cons, List.length_cons, h.1], fun i hi => by
    cases i with
    | zero => exact ⟨N, cn, A, ca, rfl, hN, hA⟩
    | succ i => exact h.2 i (by simpa using hi)⟩
theorem FitF.snoc {L : List TF} {l : List VF} (h : FitF w P L l) {s : ByteArray} {ss : List ByteArray} {p : St} {N A : Option Addr} {cn ca : Nat} (hN : StrP w P N ss) (hA : SlSP w P A p) : FitF w P (L ++ [(s, ss, p)]) (l ++ [(s, .slice N ss.length cn, .slice A p.len ca)]) := by
  refine ⟨by rw [List.length_append, List.length_append, h.1]; rfl, fun i hi => ?_⟩
  rcases Nat.lt_or_ge i L.length with h1 | h1
  · rw [List.getElem?_append_left (by rw [h.1]; exact h1), List.getElem_append_left h1]
    exact h.2 i h1
  · have e : i = L.length := by rw [List.length_append] at hi; have : [(s, ss, p)].length = 1 := rfl; omega
    subst e
    rw [List.getElem?_append_right (by rw [h.1]; exact Nat.le_refl _), h.1, Nat.sub_self, List.getElem_append_right (Nat.le_refl _)]
    exact ⟨N, cn, A, ca, by simp, by simpa using hN, by simpa using hA⟩
theorem FitF.take {L : List TF} {l : List VF} (h : FitF w P L l) (n : Nat) : FitF w P (L.take n) (l.take n) :=
  ⟨by rw [List.length_take, List.length_take, h.1], fun i hi => by
    rw [List.length_take] at hi
    obtain ⟨N, cn, A, ca, h1, h2, h3⟩ := h.2 i (by omega)
    rw [List.getElem_take, List.getElem?_take, if_pos (by omega)]
    exact ⟨N, cn, A, ca, h1, h2, h3⟩⟩
theorem StrP.of_blk {b : Nat} {t : TypeId} {ss : List ByteArray} (h : Blk w b t (ss.map Value.string).toArray) : StrP w (fun x => P x ∨ x = b) (some ⟨b, 0, none⟩) ss := fun _ => ⟨b, 0, rfl, .inr rfl, fun j u hu => by rw [Nat.zero_add, h.cell, List.getElem?_toArray]; exact hu⟩
/-- A literal row. -/
theorem Rw.lit {b base n size : Nat} {e : TypeId} {cs : Array Value} (h : Bx g U w b e cs) (hn : cs.size = n * size) (hm : n ≤ maxLen) (hb : base ≤ b) (hg : g < base) : Rw g U w base e size (.slice (some ⟨b, 0, none⟩) n n) n cs.toList :=
  ⟨⟨by simpa using hn, .inr ⟨b, n, cs, rfl, hb, h.1, Nat.le_refl _, hm, hn, List.take_of_length_le (by rw [Array.length_toList, hn]; exact Nat.le_refl _)⟩⟩, fun x hx => by simp [Value.ownBlock] at hx; subst hx; exact h.2.1, hg⟩
/-- A row of rules that is done is frozen. -/
theorem RulP.of_rw {base : Nat} {e : TypeId} {v : Value} {L : List TR} {l : List VR} (hR : Rw g U w base e 6 v l.length (flat rlC l)) (h : FitR w U' L l) (hU : ∀ b, U' b → P b) (hP : ∀ b, v.ownBlock = some b → P b) : ∃ A c, v = .slice A L.length c ∧ RulP w P A L := by
  obtain ⟨A, c, rfl⟩ := hR.form
  refine ⟨A, c, by rw [h.1], fun hp => ?_⟩
  obtain ⟨b, rfl, h1, _⟩ := own_blk hR.1 (by rw [h.1]; exact hp)
  refine ⟨b, 0, l, rfl, hP b rfl, h.more hU, fun j u hu => ?_⟩
  have := hR.1.cells rfl j u hu
  rw [add_plain] at this
  exact this
/-- A row of functions that is done is frozen. -/
theorem FunP.of_rw {base : Nat} {e : TypeId} {v : Value} {L : List TF} {l : List VF} (hR : Rw g U w base e 3 v l.length (flat fnC l)) (h : FitF w U' L l) (hU : ∀ b, U' b → P b) (hP : ∀ b, v.ownBlock = some b → P b) : ∃ A c, v = .slice A L.length c ∧ FunP w P A L := by
  obtain ⟨A, c, rfl⟩ := hR.form
  refine ⟨A, c, by rw [h.1], fun hp => ?_⟩
  obtain ⟨b, rfl, h1, _⟩ := own_blk hR.1 (by rw [h.1]; exact hp)
  refine ⟨b, 0, l, rfl, hP b rfl, h.more hU, fun j u hu => ?_⟩
  have := hR.1.cells rfl j u hu
  rw [add_plain] at this
  exact this
theorem flat_take {α : Type} (f : α → List Value) (l : List α) (n : Nat) : ∀ (j : Nat) (u : Value), (flat f (l.take n))[j]? = some u → (flat f l)[j]? = some u := fun j u hu => by
  have e : flat f l = flat f (l.take n) ++ flat f (l.drop n) := by unfold flat; rw [← List.flatMap_append, List.take_append_drop]
  rw [e, List.getElem?_append_left]
  · exact hu
  · rcases Nat.lt_or_ge j (flat f (l.take n)).length with h | h
    · exact h
    · rw [List.getElem?_eq_none h] at hu; cases hu
theorem FunP.take {L : List TF} (h : FunP w P A L) (n : Nat) : FunP w P A (L.take n) := fun hp => by
  obtain ⟨b, o, l, e, h1, h2, h3⟩ := h (by rw [List.length_take] at hp; omega)
  exact ⟨b, o, l.take n, e, h1, h2.take n, fun j u hu => h3 j u (flat_take fnC l n j u hu)⟩
theorem StP.drop : ∀ (fr : St) (i b off : Nat), StP w P fr b off → StP w P (fr.drop i) b (off + i * 6)
  | fr, 0, b, off, h => by rw [St.drop_zero, Nat.zero_mul, Nat.add_zero]; exact h
  | .nil, i + 1, b, off, _ => trivial
  | .cons a x p q r, i + 1, b, off, h => by
    have := StP.drop r i b _ h.2
    rw [Nat.succ_mul, Nat.add_comm (i * 6), ← Nat.add_assoc]
    exact this
/-- What stands at place i of a frozen row of statements. -/
theorem SlSP.at_ {fr : St} (h : SlSP w P A fr) {i : Nat} (hi' : i < fr.len) :
    ∃ b o a x p q X cx Y cp Q cq, A = some ⟨b, o, none⟩ ∧ P b ∧ fr.drop i = .cons a x p q (fr.drop (i + 1)) ∧ x.size + p.size + q.size < fr.size ∧
      (SlP exprC w P X x ∧ SlSP w P Y p ∧ SlSP w P Q q) ∧
      w.cell? ⟨b, o + i * 6, none⟩ = some (.int .i64 a.1) ∧ w.cell? ⟨b, o + i * 6 + 1, none⟩ = some (.string a.2.1) ∧ w.cell? ⟨b, o + i * 6 + 2, none⟩ = some (.string a.2.2) ∧
      w.cell? ⟨b, o + i * 6 + 3, none⟩ = some (.slice X x.len cx) ∧ w.cell? ⟨b, o + i * 6 + 4, none⟩ = some (.slice Y p.len cp) ∧ w.cell? ⟨b, o + i * 6 + 5, none⟩ = some (.slice Q q.len cq) := by
  obtain ⟨b, o, e, h1, h3⟩ := h (by omega)
  obtain ⟨a, x, p, q, hd⟩ := fr.drop_at i hi'
  have h4 := StP.drop fr i b o h3
  rw [hd] at h4
  obtain ⟨⟨X, cx, Y, cp, Q, cq, hc, hx, hp, hq⟩, _⟩ := h4
  have := fr.drop_size i
  rw [hd] at this
  exact ⟨b, o, a, x, p, q, X, cx, Y, cp, Q, cq, e, h1, hd, by simp only [St.size] at this; omega, ⟨hx, hp, hq⟩, hc 0 _ rfl, hc 1 _ rfl, hc 2 _ rfl, hc 3 _ rfl, hc 4 _ rfl, hc 5 _ rfl⟩
end

end Go.Proofs.Ytalnkdbmbjplpaa
