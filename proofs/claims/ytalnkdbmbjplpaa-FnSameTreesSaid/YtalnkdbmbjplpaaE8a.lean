/- Walks over the reference's draws of terms: l8Int, l8Var, l8Of, l8Leaf, l8RexText, l8Ops. -/
import Derived.Test.YtalnkdbmbjplpaaFro
namespace Go.Proofs.Ytalnkdbmbjplpaa
open Go.RowKit

set_option maxHeartbeats 400000 in
theorem dOnce (B g : Nat) (n : Int) (w : World) (hc : Cur B w g) (hn : n ≤ 16777216) :
    Calls Try.prog 16 #[.pointer (some ⟨g, 0, none⟩), .int .i64 n] w fun e w' => (∃ b : Bool, e = .returned (.bool b)) ∧ Cur B w' g ∧ w.grownBy w' (some g) := by
  go_enter Try.func16, Try.ntmps16
  go_wp2_with fail
  refine (dBelow B g n _ hc hn).mono ?_; rintro e w1 ⟨⟨x, rfl, _⟩, hc1, hg1⟩
  go_wp2_with fail
  go_ret
  exact ⟨⟨_, rfl⟩, hc1, hg1⟩

section
variable {B g : Nat} {U : Nat → Prop} {w : World}
theorem cBelow (n : Int) (h : Cu B g U w) (hn : n ≤ 16777216) : Calls Try.prog 28 #[.pointer (some ⟨g, 0, none⟩), .int .i64 n] w fun e w' => RetInt (fun x => 0 ≤ x ∧ (0 < n → x < n) ∧ (n ≤ 0 → x = 0)) e ∧ Cu B g U w' ∧ Gro g U w U w' :=
  (dBelow B g n w h.1 hn).mono fun _ _ ⟨h1, h2, h3⟩ => ⟨h1, h.call h2 h3, Gro.of h3 U⟩
theorem cInt (b n : Nat) (zs : List Int) (h : Cu B g U w) (hl : zs.length = n) (hn : 0 < n) (hn2 : n ≤ 1000) (hb : Blk w b 3 (zs.map (Value.int .i64)).toArray) (hne : b ≠ g) : Calls Try.prog 30 #[.pointer (some ⟨g, 0, none⟩), .slice (some ⟨b, 0, none⟩) n n] w fun e w' => RetInt (fun z => z ∈ zs) e ∧ Cu B g U w' ∧ Gro g U w U w' :=
  (dInt B g b n zs w h.1 hl hn hn2 hb hne).mono fun _ _ ⟨h1, h2, h3⟩ => ⟨h1, h.call h2 h3, Gro.of h3 U⟩
theorem cStr (b n : Nat) (xs : List ByteArray) (h : Cu B g U w) (hl : xs.length = n) (hn : 0 < n) (hn2 : n ≤ 1000) (hb : Blk w b 9 (xs.map Value.string).toArray) (hne : b ≠ g) : Calls Try.prog 29 #[.pointer (some ⟨g, 0, none⟩), .slice (some ⟨b, 0, none⟩) n n] w fun e w' => RetS (fun z => z ∈ xs) e ∧ Cu B g U w' ∧ Gro g U w U w' :=
  (dStr B g b n xs w h.1 hl hn hn2 hb hne).mono fun _ _ ⟨h1, h2, h3⟩ => ⟨h1, h.call h2 h3, Gro.of h3 U⟩
theorem cOnce (n : Int) (h : Cu B g U w) (hn : n ≤ 16777216) : Calls Try.prog 16 #[.pointer (some ⟨g, 0, none⟩), .int .i64 n] w fun e w' => (∃ b : Bool, e = .returned (.bool b)) ∧ Cu B g U w' ∧ Gro g U w U w' :=
  (dOnce B g n w h.1 hn).mono fun _ _ ⟨h1, h2, h3⟩ => ⟨h1, h.call h2 h3, Gro.of h3 U⟩
end
set_option maxRecDepth 20000 in
theorem sInt8 (n : Int) (w : World) : Calls Try.prog 33 #[.int .i64 n] w fun e w' => e = .returned (.agg #[.int .i64 1, .int .i64 n, .string ⟨#[]⟩, .slice none 0 0]) ∧ Below w.heap.size w w' := by
  go_enter Try.func33, Try.ntmps33
  go_wp2_with fail
  exact bodyPost_ret (res_cell1 rfl _ _ _ _ _ _ rfl (Blk.new w 26 _) Try.underlying26 (by kernel_rfl)) rfl ⟨rfl, bl_alloc (Below.refl _ _) _⟩
set_option maxRecDepth 20000 in
theorem sVar8 (s : ByteArray) (w : World) : Calls Try.prog 42 #[.string s] w fun e w' => e = .returned (.agg #[.int .i64 3, .int .i64 0, .string s, .slice none 0 0]) ∧ Below w.heap.size w w' := by
  go_enter Try.func42, Try.ntmps42
  go_wp2_with fail
  exact bodyPost_ret (res_cell1 rfl _ _ _ _ _ _ rfl (Blk.new w 26 _) Try.underlying26 (by kernel_rfl)) rfl ⟨rfl, bl_alloc (Below.refl _ _) _⟩
set_option maxRecDepth 20000 in
theorem sOf8 (k : Int) (A : Option Addr) (n c : Nat) (w : World) : Calls Try.prog 31 #[.int .i64 k, .slice A n c] w fun e w' => e = .returned (.agg #[.int .i64 k, .int .i64 0, .string ⟨#[]⟩, .slice A n c]) ∧ Below w.heap.size w w' := by
  go_enter Try.func31, Try.ntmps31
  go_wp2_with fail
  exact bodyPost_ret (res_cell1 rfl _ _ _ _ _ _ rfl (Blk.new w 26 _) Try.underlying26 (by kernel_rfl)) rfl ⟨rfl, bl_alloc (Below.refl _ _) _⟩

/-- A term's kids at most n; their blocks are frozen. -/
def EO (n B g : Nat) (U : Nat → Prop) (w : World) (U' : Nat → Prop) (w' : World) (A : Option Addr) (kids : Fr (Int × Int × ByteArray)) : Prop := kids.size ≤ n ∧ SlP exprC w' U' A kids ∧ Cu B g U' w' ∧ Gro g U w U' w'
/-- It hands back a term of at most n parts within. -/
def REx (n B g : Nat) (U : Nat → Prop) (w : World) (e : Ending) (w' : World) : Prop := ∃ (zk zn : Int) (zs : ByteArray) (kids : Fr (Int × Int × ByteArray)) (A : Option Addr) (c : Nat) (U' : Nat → Prop), e = .returned (.agg #[.int .i64 zk, .int .i64 zn, .string zs, .slice A kids.len c]) ∧ EO n B g U w U' w' A kids
section
variable {n B g r : Nat} {U U' : Nat → Prop} {w w' : World} {A : Option Addr} {kids : Fr (Int × Int × ByteArray)}
theorem EO.setb (h : EO n B g U w U' w' A kids) (hu : ¬ U' r ∧ g < r) (hr : w.heap.size ≤ r) (j : Nat) (u : Value) : EO n B g U w U' (w'.setCell ⟨r, j, none⟩ u) A kids :=
  ⟨h.1, h.2.1.setb hu.1 u, h.2.2.1.setb hu.2 u, h.2.2.2.setb hr u⟩
theorem EO.none_ (C : Cu B g U' w') (G : Gro g U w U' w') : EO n B g U w U' w' none .nil := ⟨Nat.zero_le _, SlP.nil_ _ _, C, G⟩
/-- A literal of one term. -/
theorem SlP.one {b c : Nat} {zk zn : Int} {zs : ByteArray} {t : TypeId} (X : Blk w b t #[.int .i64 zk, .int .i64 zn, .string zs, .slice A kids.len c]) (hS : SlP exprC w U A kids) : SlP exprC w (fun x => U x ∨ x = b) (some ⟨b, 0, none⟩) (.cons (zk, zn, zs) kids .nil) := fun _ =>
  ⟨b, 0, rfl, .inr rfl, ⟨A, c, fun j u hu => by
    rw [Nat.zero_add, X.cell]
    simpa [exprC] using hu, hS.more (fun _ h => .inl h)⟩, trivial⟩
theorem EO.one {b c : Nat} {zk zn : Int} {zs : ByteArray} {t : TypeId} (h : EO n B g U w U' w' A kids) (X : Bx g U' w' b t #[.int .i64 zk, .int .i64 zn, .string zs, .slice A kids.len c]) (hb : w.heap.size ≤ b) : EO (n + 1) B g U w (fun x => U' x ∨ x = b) w' (some ⟨b, 0, none⟩) (.cons (zk, zn, zs) kids .nil) :=
  ⟨by have := h.1; simp only [Fr.size]; omega, SlP.one X.1 h.2.1, h.2.2.1.freeze (fun x e => by subst e; exact ⟨X.2.2, X.lt⟩), h.2.2.2.freeze (fun x e => by subst e; exact hb)⟩
end

set_option maxRecDepth 20000 in
set_option maxHeartbeats 4000000 in
theorem dLeaf8 (B g : Nat) (U : Nat → Prop) (w : World) (hC : Cu B g U w) :
    Calls Try.prog 37 #[.pointer (some ⟨g, 0, none⟩)] w fun e w' => REx 1 B g U w e w' := by
  have R0 := Bx.new hC 26 #[.int .i64 0, .int .i64 0, .string ⟨#[]⟩, .slice none 0 0]
  have C0 := hC.alloc (.cells #[.int .i64 0, .int .i64 0, .string ⟨#[]⟩, .slice none 0 0] 26)
  have G0 := (Gro.refl g U w).alloc (.cells #[.int .i64 0, .int .i64 0, .string ⟨#[]⟩, .slice none 0 0] 26)
  have hr := Nat.le_refl w.heap.size
  go_enter Try.func37, Try.ntmps37
  go_wp2_with fail
  refine (cBelow 8 C0 (by omega)).mono ?_; rintro e w1 ⟨⟨x, rfl, hx0, hx1, _⟩, C1, G1⟩
  clear hx0 hx1
  have R1 := R0.gro G1
  replace G1 := G0.trans G1
  clear R0 C0 G0
  by_cases x0 : x = 0
  · subst x0
    go_wp2_with fail
    refine (cInt w1.heap.size 6 [0, 1, 2, 3, 10, 2147483647] (C1.alloc _) rfl (by omega) (by omega) (Blk.new w1 _ _) (by have := C1.lt; omega)).mono ?_; rintro e w2 ⟨⟨z, rfl, hz⟩, C2, G2⟩
    have R2 := (R1.alloc _).gro G2
    replace G2 := (G1.alloc _).trans G2
    clear hz
    go_wp2_with fail
    refine (sInt8 z _).mono ?_; rintro e w3 ⟨rfl, b3⟩
    have R3 := R2.below b3
    have C3 := C2.below b3
    have G3 := G2.below b3
    have p9 := R3.cell
    have f9 := R3.frozen
    go_wp2_with fail
    exact bodyPost_ret (res_cell1 rfl _ _ _ _ _ _ rfl ((((R3.1.set_ 0 _).set_ 1 _).set_ 2 _).set_ 3 _) Try.underlying26 (by kernel_rfl)) rfl ⟨1, z, ⟨#[]⟩, .nil, none, 0, U, rfl, ((((EO.none_ C3 G3).setb R3.2 hr _ _).setb R3.2 hr _ _).setb R3.2 hr _ _).setb R3.2 hr _ _⟩
  have b0 : (x == 0) = false := by simp [x0]
  by_cases x1 : x = 1
  · subst x1
    go_wp2_with fail
    refine (cInt w1.heap.size 6 [0, 1, 2, 3, 10, 2147483647] (C1.alloc _) rfl (by omega) (by omega) (Blk.new w1 _ _) (by have := C1.lt; omega)).mono ?_; rintro e w2 ⟨⟨z, rfl, hz⟩, C2, G2⟩
    have R2 := (R1.alloc _).gro G2
    replace G2 := (G1.alloc _).trans G2
    clear hz
    go_wp2_with fail
    refine (sInt8 z _).mono ?_; rintro e w3 ⟨rfl, b3⟩
    have R3 := R2.below b3
    have C3 := C2.below b3
    have G3 := G2.below b3
    have p9 := R3.cell
    have f9 := R3.frozen
    go_wp2_with fail
    exact bodyPost_ret (res_cell1 rfl _ _ _ _ _ _ rfl ((((R3.1.set_ 0 _).set_ 1 _).set_ 2 _).set_ 3 _) Try.underlying26 (by kernel_rfl)) rfl ⟨1, z, ⟨#[]⟩, .nil, none, 0, U, rfl, ((((EO.none_ C3 G3).setb R3.2 hr _ _).setb R3.2 hr _ _).setb R3.2 hr _ _).setb R3.2 hr _ _⟩
  have b1 : (x == 1) = false := by simp [x1]
  by_cases x2 : x = 2
  · subst x2
    go_wp2_with fail
    refine (cStr w1.heap.size 5 [⟨#[]⟩, ⟨#[97]⟩, ⟨#[97, 98]⟩, ⟨#[49, 50]⟩, ⟨#[45, 51, 120]⟩] (C1.alloc _) rfl (by omega) (by omega) (Blk.new w1 _ _) (by have := C1.lt; omega)).mono ?_; rintro e w2 ⟨⟨z, rfl, hz⟩, C2, G2⟩
    have R2 := (R1.alloc _).gro G2
    replace G2 := (G1.alloc _).trans G2
    clear hz
    have p9 := R2.cell
    have f9 := R2.frozen
    go_wp2_with fail
    exact bodyPost_ret (res_cell1 rfl _ _ _ _ _ _ rfl ((((R2.1.set_ 0 _).set_ 1 _).set_ 2 _).set_ 3 _) Try.underlying26 (by kernel_rfl)) rfl ⟨2, 0, z, .nil, none, 0, U, rfl, ((((EO.none_ C2 G2).setb R2.2 hr _ _).setb R2.2 hr _ _).setb R2.2 hr _ _).setb R2.2 hr _ _⟩
  have b2 : (x == 2) = false := by simp [x2]
  by_cases x3 : x = 3
  · subst x3
    go_wp2_with fail
    refine (cStr w1.heap.size 3 [⟨#[120]⟩, ⟨#[121]⟩, ⟨#[120]⟩] (C1.alloc _) rfl (by omega) (by omega) (Blk.new w1 _ _) (by have := C1.lt; omega)).mono ?_; rintro e w2 ⟨⟨z, rfl, hz⟩, C2, G2⟩
    have R2 := (R1.alloc _).gro G2
    replace G2 := (G1.alloc _).trans G2
    clear hz
    go_wp2_with fail
    refine (sVar8 z _).mono ?_; rintro e w3 ⟨rfl, b3⟩
    have R3 := R2.below b3
    have C3 := C2.below b3
    have G3 := G2.below b3
    have p9 := R3.cell
    have f9 := R3.frozen
    go_wp2_with fail
    exact bodyPost_ret (res_cell1 rfl _ _ _ _ _ _ rfl ((((R3.1.set_ 0 _).set_ 1 _).set_ 2 _).set_ 3 _) Try.underlying26 (by kernel_rfl)) rfl ⟨3, 0, z, .nil, none, 0, U, rfl, ((((EO.none_ C3 G3).setb R3.2 hr _ _).setb R3.2 hr _ _).setb R3.2 hr _ _).setb R3.2 hr _ _⟩
  have b3 : (x == 3) = false := by simp [x3]
  by_cases x4 : x = 4
  · subst x4
    go_wp2_with fail
    refine (cStr w1.heap.size 3 [⟨#[120]⟩, ⟨#[121]⟩, ⟨#[120]⟩] (C1.alloc _) rfl (by omega) (by omega) (Blk.new w1 _ _) (by have := C1.lt; omega)).mono ?_; rintro e w2 ⟨⟨z, rfl, hz⟩, C2, G2⟩
    have R2 := (R1.alloc _).gro G2
    replace G2 := (G1.alloc _).trans G2
    clear hz
    go_wp2_with fail
    refine (sVar8 z _).mono ?_; rintro e w3 ⟨rfl, b3⟩
    have R3 := R2.below b3
    have C3 := C2.below b3
    have G3 := G2.below b3
    have p9 := R3.cell
    have f9 := R3.frozen
    go_wp2_with fail
    exact bodyPost_ret (res_cell1 rfl _ _ _ _ _ _ rfl ((((R3.1.set_ 0 _).set_ 1 _).set_ 2 _).set_ 3 _) Try.underlying26 (by kernel_rfl)) rfl ⟨3, 0, z, .nil, none, 0, U, rfl, ((((EO.none_ C3 G3).setb R3.2 hr _ _).setb R3.2 hr _ _).setb R3.2 hr _ _).setb R3.2 hr _ _⟩
  have b4 : (x == 4) = false := by simp [x4]
  by_cases x5 : x = 5
  · subst x5
    go_wp2_with fail
    refine (cStr w1.heap.size 3 [⟨#[120]⟩, ⟨#[121]⟩, ⟨#[120]⟩] (C1.alloc _) rfl (by omega) (by omega) (Blk.new w1 _ _) (by have := C1.lt; omega)).mono ?_; rintro e w2 ⟨⟨z, rfl, hz⟩, C2, G2⟩
    have R2 := (R1.alloc _).gro G2
    replace G2 := (G1.alloc _).trans G2
    clear hz
    go_wp2_with fail
    refine (sVar8 z _).mono ?_; rintro e w3 ⟨rfl, b3⟩
    have R3 := R2.below b3
    have C3 := C2.below b3
    have G3 := G2.below b3
    have p9 := R3.cell
    have f9 := R3.frozen
    go_wp2_with fail
    exact bodyPost_ret (res_cell1 rfl _ _ _ _ _ _ rfl ((((R3.1.set_ 0 _).set_ 1 _).set_ 2 _).set_ 3 _) Try.underlying26 (by kernel_rfl)) rfl ⟨3, 0, z, .nil, none, 0, U, rfl, ((((EO.none_ C3 G3).setb R3.2 hr _ _).setb R3.2 hr _ _).setb R3.2 hr _ _).setb R3.2 hr _ _⟩
  have b5 : (x == 5) = false := by simp [x5]
  by_cases x6 : x = 6
  · subst x6
    go_wp2_with fail
    refine (cBelow 4 C1 (by omega)).mono ?_; rintro e w2 ⟨⟨z, rfl, hz⟩, C2, G2⟩
    clear hz
    have R2 := R1.gro G2
    replace G2 := G1.trans G2
    go_wp2_with fail
    refine (sInt8 z _).mono ?_; rintro e w3 ⟨rfl, b3⟩
    have R3 := R2.below b3
    have C3 := C2.below b3
    have G3 := G2.below b3
    go_wp2_with fail
    have X := Bx.new C3 26 #[.int .i64 1, .int .i64 z, .string ⟨#[]⟩, .slice none 0 0]
    have R4 := R3.alloc (.cells #[.int .i64 1, .int .i64 z, .string ⟨#[]⟩, .slice none 0 0] 26)
    have C4 := C3.alloc (.cells #[.int .i64 1, .int .i64 z, .string ⟨#[]⟩, .slice none 0 0] 26)
    have G4 := G3.alloc (.cells #[.int .i64 1, .int .i64 z, .string ⟨#[]⟩, .slice none 0 0] 26)
    have hrx : w.heap.size ≠ w3.heap.size := by have := R3.lt; omega
    have hgs := G3.sz
    refine (sOf8 5 (some ⟨w3.heap.size, 0, none⟩) 1 1 _).mono ?_; rintro e w5 ⟨rfl, b5⟩
    replace X := X.below b5
    have R5 := R4.below b5
    have C5 := C4.below b5
    have G5 := G4.below b5
    have E := (EO.none_ (n := 0) C5 G5).one (c := 0) X hgs
    have R6 := R5.freeze (V := fun x => x = w3.heap.size) hrx
    have p9 := R6.cell
    have f9 := R6.frozen
    go_wp2_with fail
    exact bodyPost_ret (res_cell1 rfl _ _ _ _ _ _ rfl ((((R6.1.set_ 0 _).set_ 1 _).set_ 2 _).set_ 3 _) Try.underlying26 (by kernel_rfl)) rfl ⟨5, 0, ⟨#[]⟩, .cons (1, z, ⟨#[]⟩) .nil .nil, _, 1, _, rfl, ((((E).setb R6.2 hr _ _).setb R6.2 hr _ _).setb R6.2 hr _ _).setb R6.2 hr _ _⟩
  have b6 : (x == 6) = false := by simp [x6]
  go_wp2_with fail
  refine (cInt w1.heap.size 2 [14, 15] (C1.alloc _) rfl (by omega) (by omega) (Blk.new w1 _ _) (by have := C1.lt; omega)).mono ?_; rintro e w2 ⟨⟨z, rfl, hz⟩, C2, G2⟩
  have R2 := (R1.alloc _).gro G2
  replace G2 := (G1.alloc _).trans G2
  clear hz
  have p9 := R2.cell
  have f9 := R2.frozen
  go_wp2_with fail
  exact bodyPost_ret (res_cell1 rfl _ _ _ _ _ _ rfl ((((R2.1.set_ 0 _).set_ 1 _).set_ 2 _).set_ 3 _) Try.underlying26 (by kernel_rfl)) rfl ⟨z, 0, ⟨#[]⟩, .nil, none, 0, U, rfl, ((((EO.none_ C2 G2).setb R2.2 hr _ _).setb R2.2 hr _ _).setb R2.2 hr _ _).setb R2.2 hr _ _⟩

theorem dRexText8 (B g : Nat) (U : Nat → Prop) (w : World) (hC : Cu B g U w) :
    Calls Try.prog 39 #[.pointer (some ⟨g, 0, none⟩)] w fun e w' => RetS (fun _ => True) e ∧ Cu B g U w' ∧ Gro g U w U w' := by
  go_enter Try.func39, Try.ntmps39
  go_wp2_with fail
  refine (cStr w.heap.size 6 [⟨#[97]⟩, ⟨#[94, 97]⟩, ⟨#[98, 43, 36]⟩, ⟨#[97, 124, 98]⟩, ⟨#[91, 97, 98, 93, 42, 99]⟩, ⟨#[49]⟩] (hC.alloc _) rfl (by omega) (by omega) (Blk.new w _ _) (by have := hC.lt; omega)).mono ?_; rintro e w1 ⟨⟨z, rfl, _⟩, C1, G1⟩
  go_wp2_with fail
  go_ret
  exact ⟨⟨z, rfl, trivial⟩, C1, ((Gro.refl g U w).alloc _).trans G1⟩
def opsL : List ByteArray := [⟨#[43]⟩, ⟨#[45]⟩, ⟨#[42]⟩, ⟨#[47]⟩, ⟨#[37]⟩, ⟨#[46]⟩, ⟨#[60]⟩, ⟨#[60, 61]⟩, ⟨#[61, 61]⟩, ⟨#[33, 61]⟩, ⟨#[62]⟩, ⟨#[62, 61]⟩, ⟨#[38, 38]⟩, ⟨#[124, 124]⟩]
theorem sOps8 (w : World) :
    Calls Try.prog 38 #[] w fun e w' => e = .returned (.slice (some ⟨w.heap.size, 0, none⟩) 14 14) ∧ Blk w' w.heap.size 9 (opsL.map Value.string).toArray ∧ Below w.heap.size w w' := by
  go_enter Try.func38, Try.ntmps38
  go_wp2_with fail
  go_ret
  exact ⟨rfl, Blk.new w _ _, bl_alloc (Below.refl _ _) _⟩

end Go.Proofs.Ytalnkdbmbjplpaa
