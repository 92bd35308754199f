/- Programs that are drawn: their rows are closed. -/
import Derived.Test.YtalnkdbmbjplpaaP10c
import Derived.Test.YtalnkdbmbjplpaaRel
namespace Go.Proofs.Ytalnkdbmbjplpaa
open Go.RowKit

def PBnd (L : List TR) (M : List TF) : Prop := L.length ≤ 3 ∧ M.length ≤ 3 ∧ (∀ y ∈ L, y.2.2.1.size ≤ 30000 ∧ y.2.2.2.size ≤ 30000) ∧ ∀ y ∈ M, y.2.1.length ≤ 2 ∧ y.2.2.size ≤ 30000
/-- It hands back a program. -/
def RPr (B g : Nat) (U : Nat → Prop) (w : World) (e : Ending) (w' : World) : Prop := ∃ (AR AF : Option Addr) (cR cF : Nat) (L : List TR) (M : List TF) (U' : Nat → Prop), e = .returned (.agg #[.slice AR L.length cR, .slice AF M.length cF]) ∧ RulP w' U' AR L ∧ FunP w' U' AF M ∧ PBnd L M ∧ Cu B g U' w' ∧ Gro g U w U' w'
section
variable {B g lo lo1 lo2 mid r1 r2 : Nat} {U U0 U' : Nat → Prop} {w w0 w' : World} {vR vF v0 : Value} {k0 : Int} {a0 : Int × Int × ByteArray} {x0 : Fr (Int × Int × ByteArray)} {X0 : Option Addr} {cx0 : Nat} {LA0 : List TS} {la0 : List VS} {Lr : List TR} {lr : List VR} {M : List TF} {m : List VF} {t1 t2 : TypeId} {cs1 cs2 : Array Value}
theorem closeP (hRw : Rw g U w lo 54 6 vR (lr.length + 1) (flat rlC ((k0, a0, Value.slice X0 x0.len cx0, v0) :: lr))) (S0 : SlP exprC w U X0 x0) (O0 : RA g U w lo2 v0 LA0 la0) (FR : FitR w U Lr lr) (FF : FU g U w lo1 mid vF M m) (C : Cu B g U w) (G : Gro g U0 w0 U w) (h1 : w0.heap.size ≤ lo) (h2 : w0.heap.size ≤ lo2) (h3 : w0.heap.size ≤ lo1)
    (R : Bx g U w r1 t1 cs1) (R' : Bx g U w r2 t2 cs2) (n1 : vR.ownBlock ≠ some r1) (n2 : v0.ownBlock ≠ some r1) (n3 : vF.ownBlock ≠ some r1) (m1 : vR.ownBlock ≠ some r2) (m2 : v0.ownBlock ≠ some r2) (m3 : vF.ownBlock ≠ some r2) :
    ∃ AR cR AF cF U1, vR = .slice AR (Lr.length + 1) cR ∧ vF = .slice AF M.length cF ∧ RulP w U1 AR ((k0, a0, x0, mkSt LA0) :: Lr) ∧ FunP w U1 AF M ∧ Cu B g U1 w ∧ Gro g U0 w0 U1 w ∧ Bx g U1 w r1 t1 cs1 ∧ Bx g U1 w r2 t2 cs2 := by
  obtain ⟨A, ca, e0, SA, CA⟩ := O0.close C
  have hl := FR.1
  have hv0 := fun b e => O0.1.lt b e
  have hvR := fun b e => hRw.lt b e
  have hvF := fun b e => FF.1.1.lt b e
  have C2 := CA.freeze (V := fun b => vR.ownBlock = some b) (fun b hb => ⟨by have := (hvR b hb).1; have := hRw.2.2; omega, (hvR b hb).2⟩)
  have C3 := C2.freeze (V := fun b => vF.ownBlock = some b) (fun b hb => ⟨by have := (hvF b hb).1; have := FF.1.1.2.2; omega, (hvF b hb).2⟩)
  have G3 := ((G.freeze (V := fun b => v0.ownBlock = some b) (fun b hb => Nat.le_trans h2 (hv0 b hb).1)).freeze (V := fun b => vR.ownBlock = some b) (fun b hb => Nat.le_trans h1 (hvR b hb).1)).freeze (V := fun b => vF.ownBlock = some b) (fun b hb => Nat.le_trans h3 (hvF b hb).1)
  have R3 := ((R.freeze (V := fun b => v0.ownBlock = some b) n2).freeze (V := fun b => vR.ownBlock = some b) n1).freeze (V := fun b => vF.ownBlock = some b) n3
  have R3' := ((R'.freeze (V := fun b => v0.ownBlock = some b) m2).freeze (V := fun b => vR.ownBlock = some b) m1).freeze (V := fun b => vF.ownBlock = some b) m3
  have hF := (FR.more (U' := fun b => U b ∨ v0.ownBlock = some b) (fun _ h => .inl h)).cons (k := k0) (a := a0) (cx := cx0) (ca := ca) (S0.more (fun _ h => .inl h)) SA
  rw [e0] at hRw
  obtain ⟨AR, cR, eR, hR⟩ := RulP.of_rw (L := (k0, a0, x0, mkSt LA0) :: Lr) (P := fun b => ((U b ∨ v0.ownBlock = some b) ∨ vR.ownBlock = some b) ∨ vF.ownBlock = some b) hRw hF (fun _ h => .inl (.inl h)) (fun _ h => .inl (.inr h))
  obtain ⟨AF, cF, eF, hFn⟩ := FunP.of_rw (P := fun b => ((U b ∨ v0.ownBlock = some b) ∨ vR.ownBlock = some b) ∨ vF.ownBlock = some b) FF.1.1 FF.2.1 (fun _ h => .inl (.inl (.inl h))) (fun _ h => .inr h)
  exact ⟨AR, cR, AF, cF, _, eR, eF, hR, hFn, C3, G3, R3, R3'⟩
theorem closeP0 (hRw : Rw g U w lo 54 6 vR (lr.length + 1) (flat rlC ((k0, a0, Value.slice X0 x0.len cx0, v0) :: lr))) (S0 : SlP exprC w U X0 x0) (O0 : RA g U w lo2 v0 LA0 la0) (FR : FitR w U Lr lr) (FF : FU g U w lo1 mid vF M m) (C : Cu B g U w) (G : Gro g U0 w0 U w) (h1 : w0.heap.size ≤ lo) (h2 : w0.heap.size ≤ lo2) (h3 : w0.heap.size ≤ lo1) :
    ∃ AR cR AF cF U1, vR = .slice AR (Lr.length + 1) cR ∧ vF = .slice AF M.length cF ∧ RulP w U1 AR ((k0, a0, x0, mkSt LA0) :: Lr) ∧ FunP w U1 AF M ∧ Cu B g U1 w ∧ Gro g U0 w0 U1 w := by
  obtain ⟨A, ca, e0, SA, CA⟩ := O0.close C
  have hl := FR.1
  have hv0 := fun b e => O0.1.lt b e
  have hvR := fun b e => hRw.lt b e
  have hvF := fun b e => FF.1.1.lt b e
  have C2 := CA.freeze (V := fun b => vR.ownBlock = some b) (fun b hb => ⟨by have := (hvR b hb).1; have := hRw.2.2; omega, (hvR b hb).2⟩)
  have C3 := C2.freeze (V := fun b => vF.ownBlock = some b) (fun b hb => ⟨by have := (hvF b hb).1; have := FF.1.1.2.2; omega, (hvF b hb).2⟩)
  have G3 := ((G.freeze (V := fun b => v0.ownBlock = some b) (fun b hb => Nat.le_trans h2 (hv0 b hb).1)).freeze (V := fun b => vR.ownBlock = some b) (fun b hb => Nat.le_trans h1 (hvR b hb).1)).freeze (V := fun b => vF.ownBlock = some b) (fun b hb => Nat.le_trans h3 (hvF b hb).1)
  have hF := (FR.more (U' := fun b => U b ∨ v0.ownBlock = some b) (fun _ h => .inl h)).cons (k := k0) (a := a0) (cx := cx0) (ca := ca) (S0.more (fun _ h => .inl h)) SA
  rw [e0] at hRw
  obtain ⟨AR, cR, eR, hR⟩ := RulP.of_rw (L := (k0, a0, x0, mkSt LA0) :: Lr) (P := fun b => ((U b ∨ v0.ownBlock = some b) ∨ vR.ownBlock = some b) ∨ vF.ownBlock = some b) hRw hF (fun _ h => .inl (.inl h)) (fun _ h => .inl (.inr h))
  obtain ⟨AF, cF, eF, hFn⟩ := FunP.of_rw (P := fun b => ((U b ∨ v0.ownBlock = some b) ∨ vR.ownBlock = some b) ∨ vF.ownBlock = some b) FF.1.1 FF.2.1 (fun _ h => .inl (.inl (.inl h))) (fun _ h => .inr h)
  exact ⟨AR, cR, AF, cF, _, eR, eF, hR, hFn, C3, G3⟩
theorem pbnd_of (h1 : Lr.length + 1 ≤ 3) (hx0 : x0.size ≤ 30000) (hA0 : (mkSt LA0).size ≤ 30000) (hLr : ∀ y ∈ Lr, y.2.2.1.size ≤ 1000 ∧ y.2.2.2.size ≤ 20000) (FF : FU g U w lo1 mid vF M m) : PBnd ((k0, a0, x0, mkSt LA0) :: Lr) M :=
  ⟨h1, FF.2.2.1, fun y hy => by
    rcases List.mem_cons.1 hy with rfl | hy
    · exact ⟨hx0, hA0⟩
    · have := hLr y hy; omega, fun y hy => by have := FF.2.2.2 y hy; omega⟩
end

theorem ROpP.close {B g : Nat} {U : Nat → Prop} {w w' : World} {e : Ending} (h : ROpP B g U w e w') : RPr B g U w e w' := by
  obtain ⟨vR, vF, n, mid, M, m, U1, rfl, hn0, hn3, RR, FF, hmid, hM2, C, G⟩ := h
  rcases RR with ⟨rfl, _⟩ | ⟨k0, a0, x0, X0, cx0, v0, LA0, la0, Lr, lr, rfl, ⟨hRw, _⟩, S0, ⟨O0, _⟩, FR, hd0, hx0, hA0, hLr⟩
  · exact absurd hn0 (Nat.lt_irrefl 0)
  obtain ⟨AR, cR, AF, cF, U9, eR, eF, PR, PF, C9, G9⟩ := closeP0 hRw S0 O0 FR FF C G hmid hmid (Nat.le_refl _)
  exact ⟨AR, AF, cR, cF, (k0, a0, x0, mkSt LA0) :: Lr, M, U9, by rw [eR, eF]; rfl, PR, PF, pbnd_of (by have := FR.1; omega) (by omega) (by omega) hLr FF, C9, G9⟩

section
variable {B g lo lo1 lo2 r rb b4 : Nat} {U U0 : Nat → Prop} {w w0 : World} {vR vF v0 v7 : Value} {k0 : Int} {a0 : Int × Int × ByteArray} {x0 : Fr (Int × Int × ByteArray)} {X0 : Option Addr} {cx0 : Nat} {LA0 : List TS} {la0 : List VS} {Lr : List TR} {lr : List VR} {M : List TF} {m : List VF} {t : TypeId} {cs : Array Value} {z1 z2 z3 : ByteArray}
/-- A function is put behind the others, and the row stored into the program's box. -/
theorem addFn (R : Bx g U w r t cs) (Rb : Bx g U w rb 37 #[vR, vF]) (hRw : Rw g U w lo 54 6 vR (lr.length + 1) (flat rlC ((k0, a0, Value.slice X0 x0.len cx0, v0) :: lr))) (S0 : SlP exprC w U X0 x0) (O0 : RA g U w lo2 v0 LA0 la0) (FR : FitR w U Lr lr) (K4 : Bx g U w b4 9 #[.string z2, .string z3]) (FT : FitF w U M m)
    (O7 : Rw g U w lo1 59 3 v7 (m.length + 1) (flat fnC m ++ [.string z1, .slice (some ⟨b4, 0, none⟩) 2 2, .slice none 0 0])) (C : Cu B g U w) (G : Gro g U0 w0 U w)
    (hb : b4 ≠ rb ∧ b4 ≠ r ∧ rb ≠ r) (hR : vR.ownBlock ≠ some rb ∧ vR.ownBlock ≠ some b4 ∧ vR.ownBlock ≠ some r) (h0 : v0.ownBlock ≠ some rb ∧ v0.ownBlock ≠ some b4 ∧ v0.ownBlock ≠ some r) (h7 : v7.ownBlock ≠ some rb ∧ v7.ownBlock ≠ some b4 ∧ v7.ownBlock ≠ some r)
    (hs : w0.heap.size ≤ lo ∧ w0.heap.size ≤ lo1 ∧ w0.heap.size ≤ lo2 ∧ w0.heap.size ≤ b4 ∧ w0.heap.size ≤ rb) (hl : lr.length + 1 ≤ 3) (hM : M.length ≤ 2) (hx0 : x0.size ≤ 1000) (hA0 : (mkSt LA0).size ≤ 20000) (hLr : ∀ y ∈ Lr, y.2.2.1.size ≤ 1000 ∧ y.2.2.2.size ≤ 20000) (hMb : ∀ y ∈ M, y.2.1.length ≤ 2 ∧ y.2.2.size ≤ 20000) :
    ∃ (AR AF : Option Addr) (cR cF : Nat) (L : List TR) (M' : List TF) (U1 : Nat → Prop), Cu B g U1 (w.setCell ⟨rb, 1, none⟩ v7) ∧ Gro g U0 w0 U1 (w.setCell ⟨rb, 1, none⟩ v7) ∧ Bx g U1 (w.setCell ⟨rb, 1, none⟩ v7) r t cs ∧ Bx g U1 (w.setCell ⟨rb, 1, none⟩ v7) rb 37 #[.slice AR L.length cR, .slice AF M'.length cF] ∧ RulP (w.setCell ⟨rb, 1, none⟩ v7) U1 AR L ∧ FunP (w.setCell ⟨rb, 1, none⟩ v7) U1 AF M' ∧ PBnd L M' := by
  have H := Rb.set_ 1 v7
  simp only [List.setIfInBounds_toArray, List.set_cons_succ, List.set_cons_zero] at H
  have V4 : ∀ (v : Value), v.ownBlock ≠ some b4 → ∀ b, v.ownBlock = some b → ¬ (fun y => y = b4) b := fun v hv b e e2 => hv (by rw [e]; exact congrArg some e2)
  have R8 := (R.far (b := rb) (j := 1) (fun e => hb.2.2 e.symm) v7).freeze (V := fun y => y = b4) (fun e => hb.2.1 e.symm)
  have Rb8 := H.freeze (V := fun y => y = b4) (fun e => hb.1 e.symm)
  have hRw8 := (hRw.setb (b := rb) (j := 1) hR.1 v7).freeze (V := fun y => y = b4) (V4 _ hR.2.1)
  have S08 := (S0.setb (b := rb) (j := 1) Rb.2.1 v7).more (U' := fun y => U y ∨ y = b4) (fun _ h => .inl h)
  have O08 : RA g (fun y => U y ∨ y = b4) (w.setCell ⟨rb, 1, none⟩ v7) lo2 v0 LA0 la0 := ⟨(O0.1.setb (b := rb) (j := 1) h0.1 v7).freeze (V4 _ h0.2.1), (O0.2.setb (b := rb) (j := 1) Rb.2.1 v7).more (fun _ h => .inl h)⟩
  have FR8 := (FR.setb (b := rb) (j := 1) Rb.2.1 v7).more (U' := fun y => U y ∨ y = b4) (fun _ h => .inl h)
  have K8 := K4.far (b := rb) (j := 1) hb.1 v7
  have T8 := StrP.of_blk (P := U) (ss := [z2, z3]) K8.1
  have F8 := ((FT.setb (b := rb) (j := 1) Rb.2.1 v7).more (U' := fun y => U y ∨ y = b4) (fun _ h => .inl h)).snoc (s := z1) (p := .nil) (A := none) (cn := 2) (ca := 0) T8 (SlSP.nil_ _ _)
  have O8 := (O7.setb (b := rb) (j := 1) h7.1 v7).freeze (V := fun y => y = b4) (V4 _ h7.2.1)
  have O8' : Rw g (fun y => U y ∨ y = b4) (w.setCell ⟨rb, 1, none⟩ v7) lo1 59 3 v7 (m ++ [(z1, Value.slice (some ⟨b4, 0, none⟩) 2 2, Value.slice none 0 0)]).length (flat fnC (m ++ [(z1, Value.slice (some ⟨b4, 0, none⟩) 2 2, Value.slice none 0 0)])) := by
    rw [List.length_append, ← flat_snoc]
    exact O8
  have FF8 : FU g (fun y => U y ∨ y = b4) (w.setCell ⟨rb, 1, none⟩ v7) lo1 (w.setCell ⟨rb, 1, none⟩ v7).heap.size v7 (M ++ [(z1, [z2, z3], .nil)]) (m ++ [(z1, Value.slice (some ⟨b4, 0, none⟩) 2 2, Value.slice none 0 0)]) := ⟨⟨O8', fun k e => (O8'.lt k e).2⟩, F8, by rw [List.length_append]; simp; omega, fun y hy => by
    rcases List.mem_append.1 hy with h | h
    · exact hMb y h
    · rw [List.mem_singleton.1 h]; exact ⟨Nat.le_refl 2, Nat.zero_le _⟩⟩
  have C8 := (C.setb (b := rb) (j := 1) Rb.2.2 v7).freeze (V := fun y => y = b4) (fun y e => by subst e; exact ⟨K8.2.2, K8.lt⟩)
  have G8 := (G.setb (b := rb) (j := 1) hs.2.2.2.2 v7).freeze (V := fun y => y = b4) (fun y e => by subst e; exact hs.2.2.2.1)
  obtain ⟨AR, cR, AF1, cF1, U9, eR, eF, PR, PF, C9, G9, R9, Rb9⟩ := closeP hRw8 S08 O08 FR8 FF8 C8 G8 hs.1 hs.2.2.1 hs.2.1 R8 Rb8 hR.2.2 h0.2.2 h7.2.2 hR.1 h0.1 h7.1
  have Rb9' : Bx g U9 (w.setCell ⟨rb, 1, none⟩ v7) rb 37 #[.slice AR (Lr.length + 1) cR, .slice AF1 (M ++ [(z1, [z2, z3], St.nil)]).length cF1] := by rw [← eR, ← eF]; exact Rb9
  exact ⟨AR, AF1, cR, cF1, (k0, a0, x0, mkSt LA0) :: Lr, M ++ [(z1, [z2, z3], .nil)], U9, C9, G9, R9, Rb9', PR, PF, pbnd_of (by have := FR8.1; omega) (by omega) (by omega) hLr FF8⟩
end

end Go.Proofs.Ytalnkdbmbjplpaa
