/- Walk over the reference's l10NoNext: statements with a print in the place of each that goes to the next line. -/
import Derived.Test.YtalnkdbmbjplpaaP10a
import Derived.Test.YtalnkdbmbjplpaaS9d
namespace Go.Proofs.Ytalnkdbmbjplpaa
open Go.RowKit

set_option maxRecDepth 20000 in
set_option maxHeartbeats 16000000 in
theorem dNoNext_step (K B g : Nat) (ih : ∀ (p : St), p.size < K → p.size ≤ 100000 → ∀ (A : Option Addr) (c : Nat) (U : Nat → Prop) (w : World), Cu B g U w → SlSP w U A p → Calls Try.prog 35 #[.slice A p.len c] w fun e w' => ROpL (2 * p.size) B g U w e w') (p : St) (hK : p.size ≤ K) (hp : p.size ≤ 100000) (A : Option Addr) (c : Nat) (U : Nat → Prop) (w : World) (hC : Cu B g U w) (hS : SlSP w U A p) :
    Calls Try.prog 35 #[.slice A p.len c] w fun e w' => ROpL (2 * p.size) B g U w e w' := by
  have IH := Lib.hid ih
  clear ih
  obtain ⟨j0, hj, hy0, hy1, hy2⟩ := info_parts info_St9
  have C0 := hC.alloc (.cells #[] 31)
  have G0 := (Gro.refl g U w).alloc (.cells #[] 31)
  have S0 := hS.alloc hC (.cells #[] 31)
  have O0 : RA g U (w.alloc (.cells #[] 31)) w.heap.size (.slice (some ⟨w.heap.size, 0, none⟩) 0 0) [] [] := ⟨⟨World.ownsRow_made w #[] 0 (Nat.le_refl _) (by unfold maxLen; omega) (by simp), fun b hb => by simp [Value.ownBlock] at hb; subst hb; exact hC.fresh (Nat.le_refl _), hC.lt⟩, FitT.nil _ _⟩
  have hz0 : Hid ((mkSt []).size + 2 * (p.drop 0).size ≤ 2 * p.size) := Lib.hid (by rw [St.drop_zero]; show 0 + 2 * p.size ≤ _; omega)
  go_enter Try.func35, Try.ntmps35
  go_wp2_with fail
  go_loopw [3, 4] (fun out i wr => ∃ (kk : Nat) (L : List TS) (l : List VS) (U1 : Nat → Prop), kk ≤ p.len ∧ i = .int .i64 kk ∧ RA g U1 wr w.heap.size out L l ∧ L.length = kk ∧ Hid ((mkSt L).size + 2 * (p.drop kk).size ≤ 2 * p.size) ∧ Cu B g U1 wr ∧ Gro g U w U1 wr ∧ SlSP wr U1 A p) (fun _ i _ => p.len - (intOf i).toNat)
  case atStart => exact ⟨0, [], [], U, Nat.zero_le _, rfl, O0, rfl, hz0, C0, G0, S0⟩
  case round =>
    clear O0 C0 G0 S0 hz0
    obtain ⟨kk, L, l, U1, hk, rfl, OA, hLk, HZ, C, G, SP⟩ := hrel
    obtain ⟨Av, cv, rfl⟩ := OA.form
    have HLk := Lib.hid hLk
    clear hLk
    by_cases hlt : kk < p.len
    · have hlt' : (kk : Int) < (p.len : Int) := by omega
      obtain ⟨b, ob, a, x, p1, q1, X, cx, Y, cp, Q, cq, rfl, hPb, hd, hks, ⟨SX, SY, SQ⟩, q0, q1', q2, q3, q4, q5⟩ := SP.at_ hlt
      obtain ⟨zk, zs, zt⟩ := a
      simp only at q0 q1' q2
      have HD := Lib.hid hd
      clear hd
      have hOwl := fun k e => (OA.1.lt k e).2
      have hOr : (Value.slice Av l.length cv).ownBlock ≠ some wr.heap.size := fun e => by have := hOwl _ e; omega
      have hwr := G.sz
      have hpl := p.len_size
      by_cases z8 : zk = 8
      · subst z8
        go_wp2_with fail
        have Rb := Bx.new C 31 #[.int .i64 8, .string zs, .string zt, .slice X x.len cx, .slice Y p1.len cp, .slice Q q1.len cq]
        replace OA := OA.alloc C (.cells #[.int .i64 8, .string zs, .string zt, .slice X x.len cx, .slice Y p1.len cp, .slice Q q1.len cq] 31)
        replace SX := SX.alloc C (.cells #[.int .i64 8, .string zs, .string zt, .slice X x.len cx, .slice Y p1.len cp, .slice Q q1.len cq] 31)
        replace SY := SY.alloc C (.cells #[.int .i64 8, .string zs, .string zt, .slice X x.len cx, .slice Y p1.len cp, .slice Q q1.len cq] 31)
        replace SQ := SQ.alloc C (.cells #[.int .i64 8, .string zs, .string zt, .slice X x.len cx, .slice Y p1.len cp, .slice Q q1.len cq] 31)
        replace SP := SP.alloc C (.cells #[.int .i64 8, .string zs, .string zt, .slice X x.len cx, .slice Y p1.len cp, .slice Q q1.len cq] 31)
        replace G := G.alloc (.cells #[.int .i64 8, .string zs, .string zt, .slice X x.len cx, .slice Y p1.len cp, .slice Q q1.len cq] 31)
        replace C := C.alloc (.cells #[.int .i64 8, .string zs, .string zt, .slice X x.len cx, .slice Y p1.len cp, .slice Q q1.len cq] 31)
        generalize wr.alloc (.cells #[.int .i64 8, .string zs, .string zt, .slice X x.len cx, .slice Y p1.len cp, .slice Q q1.len cq] 31) = w4 at Rb OA SX SY SQ SP C G ⊢
        generalize wr.heap.size = rb at Rb hOr hwr hOwl ⊢
        refine (sInt8 1 _).mono ?_; rintro e w5 ⟨rfl, b5⟩
        replace Rb := Rb.below b5
        replace OA := OA.below C b5
        replace SX := SX.below C b5
        replace SP := SP.below C b5
        replace G := G.below b5
        replace C := C.below b5
        clear SY SQ SX
        have pc0 := (Rb.alloc (.cells #[.int .i64 1, .int .i64 1, .string ⟨#[]⟩, .slice none 0 0] 26)).cell
        have pf0 := (Rb.alloc (.cells #[.int .i64 1, .int .i64 1, .string ⟨#[]⟩, .slice none 0 0] 26)).frozen
        go_upto_region 8 with fail
        clear pc0 pf0
        have hrb5 := Rb.lt
        have hgs5 := G.sz
        have XI := Bx.new C 26 #[.int .i64 1, .int .i64 1, .string ⟨#[]⟩, .slice none 0 0]
        replace Rb := Rb.alloc (.cells #[.int .i64 1, .int .i64 1, .string ⟨#[]⟩, .slice none 0 0] 26)
        replace OA := OA.alloc C (.cells #[.int .i64 1, .int .i64 1, .string ⟨#[]⟩, .slice none 0 0] 26)
        replace SP := SP.alloc C (.cells #[.int .i64 1, .int .i64 1, .string ⟨#[]⟩, .slice none 0 0] 26)
        replace G := G.alloc (.cells #[.int .i64 1, .int .i64 1, .string ⟨#[]⟩, .slice none 0 0] 26)
        replace C := C.alloc (.cells #[.int .i64 1, .int .i64 1, .string ⟨#[]⟩, .slice none 0 0] 26)
        generalize w5.alloc (.cells #[.int .i64 1, .int .i64 1, .string ⟨#[]⟩, .slice none 0 0] 26) = w5t at XI Rb OA SP G C ⊢
        generalize w5.heap.size = bi at XI hrb5 hgs5 ⊢
        replace OA := ((((((OA.setb (j := 0) hOr Rb.2.1 (.int .i64 1)).setb (j := 1) hOr Rb.2.1 (.string ⟨#[]⟩)).setb (j := 2) hOr Rb.2.1 (.string ⟨#[]⟩)).setb (j := 3) hOr Rb.2.1 (.slice (some ⟨bi, 0, none⟩) 1 1)).setb (j := 4) hOr Rb.2.1 (.slice none 0 0)).setb (j := 5) hOr Rb.2.1 (.slice none 0 0))
        replace SP := ((((((SP.setb (j := 0) Rb.2.1 (.int .i64 1)).setb (j := 1) Rb.2.1 (.string ⟨#[]⟩)).setb (j := 2) Rb.2.1 (.string ⟨#[]⟩)).setb (j := 3) Rb.2.1 (.slice (some ⟨bi, 0, none⟩) 1 1)).setb (j := 4) Rb.2.1 (.slice none 0 0)).setb (j := 5) Rb.2.1 (.slice none 0 0))
        have hbr : bi ≠ rb := by omega
        replace XI := ((((((XI.far (j := 0) hbr (.int .i64 1)).far (j := 1) hbr (.string ⟨#[]⟩)).far (j := 2) hbr (.string ⟨#[]⟩)).far (j := 3) hbr (.slice (some ⟨bi, 0, none⟩) 1 1)).far (j := 4) hbr (.slice none 0 0)).far (j := 5) hbr (.slice none 0 0))
        replace G := ((((((G.setb (b := rb) (j := 0) (by omega) (.int .i64 1)).setb (b := rb) (j := 1) (by omega) (.string ⟨#[]⟩)).setb (b := rb) (j := 2) (by omega) (.string ⟨#[]⟩)).setb (b := rb) (j := 3) (by omega) (.slice (some ⟨bi, 0, none⟩) 1 1)).setb (b := rb) (j := 4) (by omega) (.slice none 0 0)).setb (b := rb) (j := 5) (by omega) (.slice none 0 0))
        replace C := ((((((C.setb (b := rb) (j := 0) Rb.2.2 (.int .i64 1)).setb (b := rb) (j := 1) Rb.2.2 (.string ⟨#[]⟩)).setb (b := rb) (j := 2) Rb.2.2 (.string ⟨#[]⟩)).setb (b := rb) (j := 3) Rb.2.2 (.slice (some ⟨bi, 0, none⟩) 1 1)).setb (b := rb) (j := 4) Rb.2.2 (.slice none 0 0)).setb (b := rb) (j := 5) Rb.2.2 (.slice none 0 0))
        replace Rb := ((((((Rb.set_ 0 (.int .i64 1)).set_ 1 (.string ⟨#[]⟩)).set_ 2 (.string ⟨#[]⟩)).set_ 3 (.slice (some ⟨bi, 0, none⟩) 1 1)).set_ 4 (.slice none 0 0)).set_ 5 (.slice none 0 0))
        simp only [List.setIfInBounds_toArray, List.set_cons_succ, List.set_cons_zero] at Rb
        generalize ((((((w5t.setCell ⟨rb, 0, none⟩ (.int .i64 1)).setCell ⟨rb, 1, none⟩ (.string ⟨#[]⟩)).setCell ⟨rb, 2, none⟩ (.string ⟨#[]⟩)).setCell ⟨rb, 3, none⟩ (.slice (some ⟨bi, 0, none⟩) 1 1)).setCell ⟨rb, 4, none⟩ (.slice none 0 0)).setCell ⟨rb, 5, none⟩ (.slice none 0 0)) = w5u at XI Rb OA SP G C ⊢
        have hOi : ∀ k, (Value.slice Av l.length cv).ownBlock = some k → ¬ k = bi := fun k e e2 => by have := hOwl k e; omega
        have SX := SlP.one (U := U1) (kids := .nil) XI.1 (SlP.nil_ _ none)
        have hri : ¬ rb = bi := by omega
        replace Rb := Rb.freeze (V := fun y => y = bi) hri
        replace OA : RA g (fun y => U1 y ∨ y = bi) w5u w.heap.size (Value.slice Av l.length cv) L l := ⟨⟨OA.1.1, fun b hb e => e.elim (OA.1.2.1 b hb) (fun e => hOi b hb e), OA.1.2.2⟩, OA.2.more (fun _ h => .inl h)⟩
        replace SP := SP.more (U' := fun y => U1 y ∨ y = bi) (fun _ h => .inl h)
        replace G := G.freeze (V := fun y => y = bi) (fun y e => by subst e; omega)
        replace C := C.freeze (V := fun y => y = bi) (fun y e => by subst e; exact ⟨XI.2.2, XI.lt⟩)
        clear XI hOi
        have SY := SlSP.nil_ (U := fun y => U1 y ∨ y = bi) w5u none
        have SQ := SlSP.nil_ (U := fun y => U1 y ∨ y = bi) w5u none
        have pc0 := Rb.cell
        have pf0 := Rb.frozen
        go_wp2_with fail
        clear pc0 pf0
        refine (IH.out .nil (by first | omega | (simp only [St.size]; omega)) (by first | omega | (simp only [St.size]; omega)) none 0 _ _ C SY).mono ?_; rintro e w6 hr6
        obtain ⟨A6, c6, p6, U6, rfl, hs6, S6, C6, G6⟩ := hr6.close
        clear hr6 SY
        replace Rb := Rb.gro G6
        replace OA := OA.gro C G6
        replace SX := SX.gro C G6
        replace SQ := SQ.gro C G6
        replace SP := SP.gro C G6
        replace G := G.trans G6
        clear C
        have C := C6
        clear C6 G6
        have pc0 := Rb.cell
        have pf0 := Rb.frozen
        go_wp2_with fail
        clear pc0 pf0
        have hn6 := hOr
        replace OA := OA.setb (j := 4) hn6 Rb.2.1 (.slice A6 p6.len c6)
        replace SX := SX.setb (j := 4) Rb.2.1 (.slice A6 p6.len c6)
        replace SQ := SQ.setb (j := 4) Rb.2.1 (.slice A6 p6.len c6)
        replace SP := SP.setb (j := 4) Rb.2.1 (.slice A6 p6.len c6)
        replace S6 := S6.setb (j := 4) Rb.2.1 (.slice A6 p6.len c6)
        replace C := C.setb (b := rb) (j := 4) Rb.2.2 (.slice A6 p6.len c6)
        replace G := G.setb (b := rb) (j := 4) (by omega) (.slice A6 p6.len c6)
        replace Rb := Rb.set_ 4 (.slice A6 p6.len c6)
        simp only [List.setIfInBounds_toArray, List.set_cons_succ, List.set_cons_zero] at Rb
        generalize w6.setCell ⟨rb, 4, none⟩ (.slice A6 p6.len c6) = w7 at Rb OA SX SQ SP S6 C G ⊢
        refine (IH.out .nil (by first | omega | (simp only [St.size]; omega)) (by first | omega | (simp only [St.size]; omega)) none 0 _ _ C SQ).mono ?_; rintro e w8 hr8
        obtain ⟨A8, c8, p8, U8, rfl, hs8, S8, C8, G8⟩ := hr8.close
        clear hr8 SQ
        replace Rb := Rb.gro G8
        replace OA := OA.gro C G8
        replace SX := SX.gro C G8
        replace S6 := S6.gro C G8
        replace SP := SP.gro C G8
        replace G := G.trans G8
        clear C
        have C := C8
        clear C8 G8
        have hgs := G.sz
        have pc0 := Rb.cell
        have pf0 := Rb.frozen
        go_upto_region 10 with fail
        clear pc0 pf0
        replace OA := OA.setb (j := 5) hn6 Rb.2.1 (.slice A8 p8.len c8)
        replace SX := SX.setb (j := 5) Rb.2.1 (.slice A8 p8.len c8)
        replace S6 := S6.setb (j := 5) Rb.2.1 (.slice A8 p8.len c8)
        replace SP := SP.setb (j := 5) Rb.2.1 (.slice A8 p8.len c8)
        replace S8 := S8.setb (j := 5) Rb.2.1 (.slice A8 p8.len c8)
        replace C := C.setb (b := rb) (j := 5) Rb.2.2 (.slice A8 p8.len c8)
        replace G := G.setb (b := rb) (j := 5) (by omega) (.slice A8 p8.len c8)
        replace Rb := Rb.set_ 5 (.slice A8 p8.len c8)
        simp only [List.setIfInBounds_toArray, List.set_cons_succ, List.set_cons_zero] at Rb
        generalize w8.setCell ⟨rb, 5, none⟩ (.slice A8 p8.len c8) = wA at Rb OA SX S6 SP S8 C G ⊢
        have hrl := Rb.lt
        have hgs2 := G.sz
        have hll : l.length ≤ 100000 := by have h2 := p.len_size; have h3 := OA.2.1; have h4 := HLk.out; omega
        have pc0 := Rb.cell
        have pf0 := Rb.frozen
        go_wp2_with (at_builtin; refine wpList_pushB rfl _ _ 29 rfl w.heap.size 31 j0 (.agg #[.int .i64 0, .string ⟨#[]⟩, .string ⟨#[]⟩, .slice none 0 0, .slice none 0 0, .slice none 0 0]) 6 112 Try.underlying29 hj hy0 hy1 hy2 rfl (by decide) (Value.slice Av l.length cv) _ _ rfl OA.1.1 [.int .i64 (1 : Int), .string (⟨#[]⟩ : ByteArray), .string (⟨#[]⟩ : ByteArray), .slice (some ⟨bi, 0, none⟩) (Fr.cons ((1 : Int), (1 : Int), (⟨#[]⟩ : ByteArray)) .nil .nil).len 1, .slice A6 p6.len c6, .slice A8 p8.len c8] rfl rfl rfl (by omega) (by omega) (by omega) ?_)
        intro v' w9 hO9 hg9 hv9
        obtain ⟨A9, c9, rfl⟩ := (Row.mk hO9).form
        clear pc0 pf0
        have hb9 := fun k e => (OA.1.lt k e).1
        have F9 := (OA.2.snoc (a := ((1 : Int), (⟨#[]⟩ : ByteArray), (⟨#[]⟩ : ByteArray))) (cx := 1) (ca := c6) (cb := c8) SX S6 S8).row C hg9 OA.1.2.1
        have SP9 := SP.row C hg9 OA.1.2.1
        have G9 := G.row hg9 hb9
        have O9 := OA.1.push C hO9 hv9
        have C9 := C.row hg9 (fun k e => by have := hb9 k e; have := hC.lt; omega)
        have O10 : Rw g U8 w9 w.heap.size 31 6 (Value.slice A9 (l.length + 1) c9) (l ++ [(((1 : Int), (⟨#[]⟩ : ByteArray), (⟨#[]⟩ : ByteArray)), Value.slice (some ⟨bi, 0, none⟩) (Fr.cons ((1 : Int), (1 : Int), (⟨#[]⟩ : ByteArray)) .nil .nil).len 1, Value.slice A6 p6.len c6, Value.slice A8 p8.len c8)]).length (flat sC (l ++ [(((1 : Int), (⟨#[]⟩ : ByteArray), (⟨#[]⟩ : ByteArray)), Value.slice (some ⟨bi, 0, none⟩) (Fr.cons ((1 : Int), (1 : Int), (⟨#[]⟩ : ByteArray)) .nil .nil).len 1, Value.slice A6 p6.len c6, Value.slice A8 p8.len c8)])) := by
          rw [List.length_append, ← flat_snoc]
          exact O9
        have HZ2 := Lib.hid (show (mkSt (L ++ [(((1 : Int), (⟨#[]⟩ : ByteArray), (⟨#[]⟩ : ByteArray)), (Fr.cons ((1 : Int), (1 : Int), (⟨#[]⟩ : ByteArray)) .nil .nil), p6, p8)])).size + 2 * (p.drop (kk + 1)).size ≤ 2 * p.size by have h1 := HZ.out; have h2 := HD.out; have h3 : (Fr.cons ((1 : Int), (1 : Int), (⟨#[]⟩ : ByteArray)) .nil .nil).size = 1 := rfl; rw [size_snocS]; rw [h2] at h1; simp only [St.size] at h1 hs6 hs8; omega)
        clear hs6 hs8
        go_wp2_with fail
        go_roundw
        case rel => exact ⟨kk + 1, _, _, U8, by omega, by go_num, ⟨O10, F9⟩, by rw [List.length_append]; have := HLk.out; simp; omega, HZ2, C9, G9, SP9⟩
        case measure => (simp [intOf] <;> omega)
      · have b8 : (zk == 8) = false := by simp [z8]
        go_wp2_with fail
        have Rb := Bx.new C 31 #[.int .i64 zk, .string zs, .string zt, .slice X x.len cx, .slice Y p1.len cp, .slice Q q1.len cq]
        replace OA := OA.alloc C (.cells #[.int .i64 zk, .string zs, .string zt, .slice X x.len cx, .slice Y p1.len cp, .slice Q q1.len cq] 31)
        replace SX := SX.alloc C (.cells #[.int .i64 zk, .string zs, .string zt, .slice X x.len cx, .slice Y p1.len cp, .slice Q q1.len cq] 31)
        replace SY := SY.alloc C (.cells #[.int .i64 zk, .string zs, .string zt, .slice X x.len cx, .slice Y p1.len cp, .slice Q q1.len cq] 31)
        replace SQ := SQ.alloc C (.cells #[.int .i64 zk, .string zs, .string zt, .slice X x.len cx, .slice Y p1.len cp, .slice Q q1.len cq] 31)
        replace SP := SP.alloc C (.cells #[.int .i64 zk, .string zs, .string zt, .slice X x.len cx, .slice Y p1.len cp, .slice Q q1.len cq] 31)
        replace G := G.alloc (.cells #[.int .i64 zk, .string zs, .string zt, .slice X x.len cx, .slice Y p1.len cp, .slice Q q1.len cq] 31)
        replace C := C.alloc (.cells #[.int .i64 zk, .string zs, .string zt, .slice X x.len cx, .slice Y p1.len cp, .slice Q q1.len cq] 31)
        generalize wr.alloc (.cells #[.int .i64 zk, .string zs, .string zt, .slice X x.len cx, .slice Y p1.len cp, .slice Q q1.len cq] 31) = w4 at Rb OA SX SY SQ SP C G ⊢
        generalize wr.heap.size = rb at Rb hOr hwr hOwl ⊢
        refine (IH.out p1 (by first | omega | (simp only [St.size]; omega)) (by first | omega | (simp only [St.size]; omega)) Y cp _ _ C SY).mono ?_; rintro e w6 hr6
        obtain ⟨A6, c6, p6, U6, rfl, hs6, S6, C6, G6⟩ := hr6.close
        clear hr6 SY
        replace Rb := Rb.gro G6
        replace OA := OA.gro C G6
        replace SX := SX.gro C G6
        replace SQ := SQ.gro C G6
        replace SP := SP.gro C G6
        replace G := G.trans G6
        clear C
        have C := C6
        clear C6 G6
        have pc0 := Rb.cell
        have pf0 := Rb.frozen
        go_wp2_with fail
        clear pc0 pf0
        have hn6 := hOr
        replace OA := OA.setb (j := 4) hn6 Rb.2.1 (.slice A6 p6.len c6)
        replace SX := SX.setb (j := 4) Rb.2.1 (.slice A6 p6.len c6)
        replace SQ := SQ.setb (j := 4) Rb.2.1 (.slice A6 p6.len c6)
        replace SP := SP.setb (j := 4) Rb.2.1 (.slice A6 p6.len c6)
        replace S6 := S6.setb (j := 4) Rb.2.1 (.slice A6 p6.len c6)
        replace C := C.setb (b := rb) (j := 4) Rb.2.2 (.slice A6 p6.len c6)
        replace G := G.setb (b := rb) (j := 4) (by omega) (.slice A6 p6.len c6)
        replace Rb := Rb.set_ 4 (.slice A6 p6.len c6)
        simp only [List.setIfInBounds_toArray, List.set_cons_succ, List.set_cons_zero] at Rb
        generalize w6.setCell ⟨rb, 4, none⟩ (.slice A6 p6.len c6) = w7 at Rb OA SX SQ SP S6 C G ⊢
        refine (IH.out q1 (by first | omega | (simp only [St.size]; omega)) (by first | omega | (simp only [St.size]; omega)) Q cq _ _ C SQ).mono ?_; rintro e w8 hr8
        obtain ⟨A8, c8, p8, U8, rfl, hs8, S8, C8, G8⟩ := hr8.close
        clear hr8 SQ
        replace Rb := Rb.gro G8
        replace OA := OA.gro C G8
        replace SX := SX.gro C G8
        replace S6 := S6.gro C G8
        replace SP := SP.gro C G8
        replace G := G.trans G8
        clear C
        have C := C8
        clear C8 G8
        have hgs := G.sz
        have pc0 := Rb.cell
        have pf0 := Rb.frozen
        go_upto_region 10 with fail
        clear pc0 pf0
        replace OA := OA.setb (j := 5) hn6 Rb.2.1 (.slice A8 p8.len c8)
        replace SX := SX.setb (j := 5) Rb.2.1 (.slice A8 p8.len c8)
        replace S6 := S6.setb (j := 5) Rb.2.1 (.slice A8 p8.len c8)
        replace SP := SP.setb (j := 5) Rb.2.1 (.slice A8 p8.len c8)
        replace S8 := S8.setb (j := 5) Rb.2.1 (.slice A8 p8.len c8)
        replace C := C.setb (b := rb) (j := 5) Rb.2.2 (.slice A8 p8.len c8)
        replace G := G.setb (b := rb) (j := 5) (by omega) (.slice A8 p8.len c8)
        replace Rb := Rb.set_ 5 (.slice A8 p8.len c8)
        simp only [List.setIfInBounds_toArray, List.set_cons_succ, List.set_cons_zero] at Rb
        generalize w8.setCell ⟨rb, 5, none⟩ (.slice A8 p8.len c8) = wA at Rb OA SX S6 SP S8 C G ⊢
        have hrl := Rb.lt
        have hgs2 := G.sz
        have hll : l.length ≤ 100000 := by have h2 := p.len_size; have h3 := OA.2.1; have h4 := HLk.out; omega
        have pc0 := Rb.cell
        have pf0 := Rb.frozen
        go_wp2_with (at_builtin; refine wpList_pushB rfl _ _ 29 rfl w.heap.size 31 j0 (.agg #[.int .i64 0, .string ⟨#[]⟩, .string ⟨#[]⟩, .slice none 0 0, .slice none 0 0, .slice none 0 0]) 6 112 Try.underlying29 hj hy0 hy1 hy2 rfl (by decide) (Value.slice Av l.length cv) _ _ rfl OA.1.1 [.int .i64 zk, .string zs, .string zt, .slice X x.len cx, .slice A6 p6.len c6, .slice A8 p8.len c8] rfl rfl rfl (by omega) (by omega) (by omega) ?_)
        intro v' w9 hO9 hg9 hv9
        obtain ⟨A9, c9, rfl⟩ := (Row.mk hO9).form
        clear pc0 pf0
        have hb9 := fun k e => (OA.1.lt k e).1
        have F9 := (OA.2.snoc (a := (zk, zs, zt)) (cx := cx) (ca := c6) (cb := c8) SX S6 S8).row C hg9 OA.1.2.1
        have SP9 := SP.row C hg9 OA.1.2.1
        have G9 := G.row hg9 hb9
        have O9 := OA.1.push C hO9 hv9
        have C9 := C.row hg9 (fun k e => by have := hb9 k e; have := hC.lt; omega)
        have O10 : Rw g U8 w9 w.heap.size 31 6 (Value.slice A9 (l.length + 1) c9) (l ++ [((zk, zs, zt), Value.slice X x.len cx, Value.slice A6 p6.len c6, Value.slice A8 p8.len c8)]).length (flat sC (l ++ [((zk, zs, zt), Value.slice X x.len cx, Value.slice A6 p6.len c6, Value.slice A8 p8.len c8)])) := by
          rw [List.length_append, ← flat_snoc]
          exact O9
        have HZ2 := Lib.hid (show (mkSt (L ++ [((zk, zs, zt), x, p6, p8)])).size + 2 * (p.drop (kk + 1)).size ≤ 2 * p.size by have h1 := HZ.out; have h2 := HD.out; have h3 := Nat.zero_le x.size; rw [size_snocS]; rw [h2] at h1; simp only [St.size] at h1 hs6 hs8; omega)
        clear hs6 hs8
        go_wp2_with fail
        go_roundw
        case rel => exact ⟨kk + 1, _, _, U8, by omega, by go_num, ⟨O10, F9⟩, by rw [List.length_append]; have := HLk.out; simp; omega, HZ2, C9, G9, SP9⟩
        case measure => (simp [intOf] <;> omega)
    · obtain rfl : kk = p.len := by omega
      have HZ2 := Lib.hid (show (mkSt L).size ≤ 2 * p.size by have := HZ.out; omega)
      go_wp2_with fail
      go_ret
      exact ⟨_, L, l, U1, rfl, HZ2.out, OA, C, G⟩
theorem dNoNext (B g K : Nat) : ∀ (p : St), p.size ≤ K → p.size ≤ 100000 → ∀ (A : Option Addr) (c : Nat) (U : Nat → Prop) (w : World), Cu B g U w → SlSP w U A p → Calls Try.prog 35 #[.slice A p.len c] w fun e w' => ROpL (2 * p.size) B g U w e w' := by
  induction K with
  | zero => exact fun p hK hp A c U w hC hS => dNoNext_step 0 B g (fun p h => by omega) p hK hp A c U w hC hS
  | succ K ih => exact fun p hK hp A c U w hC hS => dNoNext_step (K + 1) B g (fun p h hp A c U w hC hS => ih p (by omega) hp A c U w hC hS) p hK hp A c U w hC hS

end Go.Proofs.Ytalnkdbmbjplpaa
