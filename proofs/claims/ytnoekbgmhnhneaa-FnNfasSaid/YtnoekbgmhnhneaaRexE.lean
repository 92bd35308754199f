/- Walk over the reference's draw of expressions: l3Draw. -/
import Derived.Test.YtnoekbgmhnhneaaRexD
import Derived.Deep.CutRange
namespace Go.Proofs.Ytnoekbgmhnhneaa
open Go.RowKit

set_option maxRecDepth 20000 in
set_option maxHeartbeats 8000000 in
theorem dDraw_step (D : Nat) (hD : D ≤ 4) (B g : Nat) (w : World) (hc : Cur B w g)
    (ih : ∀ w, Cur B w g → Calls Try.prog 71 #[.pointer (some ⟨g, 0, none⟩), .int .i64 D] w fun e w' => RetDraw D w e w' ∧ Cur B w' g ∧ w.grownBy w' (some g)) :
    Calls Try.prog 71 #[.pointer (some ⟨g, 0, none⟩), .int .i64 ((D + 1 : Nat) : Int)] w fun e w' => RetDraw (D + 1) w e w' ∧ Cur B w' g ∧ w.grownBy w' (some g) := by
  have IH := Lib.hid ih
  clear ih
  obtain ⟨j0, hj, hy0, hy1, hy2⟩ := info_parts info_Rex
  have R0 := Blk.new w 45 #[.int .i64 0, .string ⟨#[]⟩, .slice none 0 0]
  have c0 := hc.alloc (.cells #[.int .i64 0, .string ⟨#[]⟩, .slice none 0 0] 45)
  have g0 := gr_alloc (gr_refl w (some g)) (.cells #[.int .i64 0, .string ⟨#[]⟩, .slice none 0 0] 45)
  have hgl := hc.lt
  obtain ⟨E, hE⟩ : ∃ E : Int, ((D + 1 : Nat) : Int) = E := ⟨_, rfl⟩
  rw [hE]
  have e0 : (E == 0) = false := beq_eq_false_iff_ne.2 (by omega)
  have ew : IntKind.i64.wrap (E - 1) = (D : Int) := by rw [IntWalk.i64_in _ (by omega)]; omega
  clear hE
  go_enter Try.func71, Try.ntmps71
  go_wp2_with fail
  refine (dOnce B g 4 _ c0 (by omega)).mono ?_; rintro e w1 ⟨⟨bo, rfl⟩, hc1, hg1⟩
  have R1 := R0.grown hg1 (by simp; omega)
  have G1 := gr_trans g0 hg1
  have hl1 := R1.lt
  clear R0 c0 g0 hg1
  cases bo
  case true =>
    go_wp2_with fail
    refine (dLeaf B g _ hc1).mono ?_; rintro e w9 ⟨⟨zk, zs, rfl, hzz, _⟩, hc9, hg9⟩
    have R9 := R1.grown hg9 (by simp; omega)
    have G9 := gr_trans G1 hg9
    have p1 := R9.cell
    have f1 := R9.frozen
    go_wp2_with fail
    exact bodyPost_ret (res_cell1 rfl _ _ _ _ _ _ rfl (((R9.set_ 0 _).set_ 1 _).set_ 2 _) Try.underlying45 (by kernel_rfl)) rfl ⟨⟨zk, zs, .nil, none, 0, rfl, sl_nil _ _ _ _, leaf_good hzz _⟩, ((hc9.setn (by omega) _).setn (by omega) _).setn (by omega) _, gr_setn (gr_setn (gr_setn G9 (Nat.le_refl _) _) (Nat.le_refl _) _) (Nat.le_refl _) _⟩
  go_wp2_with fail
  refine (dInt B g w1.heap.size 6 [4, 4, 5, 6, 7, 8] _ (hc1.alloc _) rfl (by omega) (by omega) (Blk.new w1 _ _) (by have := hc1.lt; omega)).mono ?_; rintro e w2 ⟨⟨k, rfl, hz⟩, hc2, hg2⟩
  have hk := (show ∀ z ∈ ([4, 4, 5, 6, 7, 8] : List Int), z = 4 ∨ z = 5 ∨ z = 6 ∨ z = 7 ∨ z = 8 by decide) k hz
  have R2 := (R1.alloc _).grown hg2 (by simp; omega)
  have G2 := gr_trans (gr_alloc G1 _) hg2
  have hl2 := R2.lt
  clear hz R1 G1 hl1
  have cR := fun w => sRep k w
  have CR := Lib.hid cR
  clear cR
  go_wp2_with fail
  have Rb := Blk.new w2 45 #[.int .i64 k, .string ⟨#[]⟩, .slice none 0 0]
  have R3 := R2.alloc (.cells #[.int .i64 k, .string ⟨#[]⟩, .slice none 0 0] 45)
  have hc3 := hc2.alloc (.cells #[.int .i64 k, .string ⟨#[]⟩, .slice none 0 0] 45)
  have G3 := gr_alloc G2 (.cells #[.int .i64 k, .string ⟨#[]⟩, .slice none 0 0] 45)
  generalize w2.alloc (.cells #[.int .i64 k, .string ⟨#[]⟩, .slice none 0 0] 45) = w3 at Rb R3 hc3 G3 ⊢
  generalize hrb : w2.heap.size = rb at Rb hl2 ⊢
  have hgrb : g < rb := by have := hc2.lt; omega
  clear hrb
  refine (dBelow B g 2 _ hc3 (by omega)).mono ?_; rintro e w4 ⟨⟨x, rfl, hx0, hx1, _⟩, hc4, hg4⟩
  have hx2 := hx1 (by omega)
  clear hx1
  have Rb4 := Rb.grown hg4 (by simp; omega)
  have R4 := R3.grown hg4 (by simp; omega)
  have G4 := gr_trans G3 hg4
  clear R2 G2 R3 G3 hg2 Rb
  have ewx : IntKind.i64.wrap (2 + x) = 2 + x := IntWalk.i64_in _ (by omega)
  obtain ⟨N, hN1, hN2⟩ : ∃ N : Nat, (repB k = true → N = 1) ∧ (repB k = false → (N : Int) = 2 + x) := by
    cases repB k
    · exact ⟨(2 + x).toNat, fun h => (by cases h), fun _ => by omega⟩
    · exact ⟨1, fun _ => rfl, fun h => (by cases h)⟩
  have hNb : N ≤ 3 := by
    cases hr : repB k
    · have := hN2 hr; omega
    · have := hN1 hr; omega
  have HK1 := Lib.hid (show (k = 4 ∨ k = 5 → 2 ≤ N ∧ N ≤ 3) ∧ (k = 6 ∨ k = 7 ∨ k = 8 → N = 1) from ⟨fun h => by
    have hr : repB k = false := by rcases h with rfl | rfl <;> rfl
    have := hN2 hr; omega, fun h => hN1 (by rcases h with rfl | rfl | rfl <;> rfl)⟩)
  have HKD := Lib.hid (show ∀ y : Int, (y == k) = false → (repB k = true → repB y = false) → kindB k y from fun y h1 h2 => ⟨fun _ => beq_eq_false_iff_ne.1 h1, fun h => h2 (by rcases h with rfl | rfl | rfl <;> rfl)⟩)
  have HKL := Lib.hid (show ∀ y : Int, repB y = false → y ≠ 4 → y ≠ 5 → kindB k y from fun y h1 h2 h3 => ⟨fun h => by omega, fun _ => h1⟩)
  have hkx : (k == 4) = true ∨ (k == 4) = false := by cases (k == 4) <;> simp
  clear hkx
  have HKK := Lib.hid hk
  clear hk
  go_wp2_with fail
  refine (CR.out _).mono ?_; rintro e wz ⟨rfl, rfl⟩
  cases hr : repB k
  case false =>
    have hNi := hN2 hr
    rw [← hNi]
    rw [← hNi] at ewx
    clear hNi
    have HR := Lib.hid hr
    have cR2 := CR.out
    simp only [hr] at cR2
    have CR2 := Lib.hid cR2
    clear cR2 hr CR hN1 hN2
    go_wp2_with fail
    go_loopw [8] (fun i wr => ∃ (q : Nat) (L : List ((Int × ByteArray) × Fr (Int × ByteArray))) (l : List ((Int × ByteArray) × Value)) (v : Value), q ≤ N ∧ i = .int .i64 q ∧ Blk wr rb 45 #[.int .i64 k, .string ⟨#[]⟩, v] ∧ Blk wr w.heap.size 45 #[.int .i64 0, .string ⟨#[]⟩, .slice none 0 0] ∧ wr.ownsRow (rb + 1) 45 3 v l.length (flat (rC rexC) l) ∧ Fit rexC wr (fun b => rb < b ∧ b < wr.heap.size ∧ v.ownBlock ≠ some b) L l ∧ L.length = q ∧ (∀ x ∈ L, goodR D x.1.1 x.1.2 x.2 ∧ kindB k x.1.1) ∧ Cur B wr g ∧ w.grownBy wr (some g)) (fun i _ => N - (intOf i).toNat)
    case atStart => exact ⟨0, [], [], .slice none 0 0, Nat.zero_le _, rfl, Rb4, R4, World.ownsRow_nil _ _ _ _, Fit.nil _ _ _, rfl, fun x hx => (by cases hx), hc4, G4⟩
    case round =>
      clear Rb4 R4 hc4 G4 hg4 hc3
      obtain ⟨q, L, l, v, hq, rfl, Rb, Rr, hO0, hF0, hLq0, hL, hC, hG⟩ := hrel
      obtain ⟨Av, cv, rfl⟩ := (Row.mk hO0).form
      have hLq := Lib.hid hLq0
      have hll : l.length ≤ 3 := by rw [hF0.1, hLq0]; omega
      clear hLq0
      by_cases hlt : q < N
      · have hlt' : (q : Int) < ((N : Nat) : Int) := by omega
        go_wp2_with fail
        refine (IH.out _ hC).mono ?_; rintro e w5 ⟨⟨y, ys, ky, Ay, cy, rfl, hSy, hgy⟩, hc5, hg5⟩
        have hrl := Rb.lt
        have s5 := hg5.size
        have Rb5 := Rb.grown hg5 (by simp; omega)
        have R5 := Rr.grown hg5 (by simp; omega)
        have G5 := gr_trans hG hg5
        have hO5 := hO0.kept hg5 (.inr (fun e => by have := (hO0.lt _ e).1; omega))
        have hF5 := hF0.keep (w' := w5) (P' := fun b => rb < b ∧ b < w5.heap.size ∧ (Value.slice Av l.length cv).ownBlock ≠ some b) (fun p hp => World.cell?_of_block (hg5.block p.block hp.2.1 (fun e => by injection e with e; have := hp.1; omega))) (fun b hb => ⟨hb.1, by omega, hb.2.2⟩)
        have hE5 : SlP rexC w5 (fun b => rb < b ∧ b < w5.heap.size ∧ (Value.slice Av l.length cv).ownBlock ≠ some b) Ay cy ky := hSy.toP.keep (fun _ _ => rfl) (fun b hb => ⟨by omega, hb.2, fun e => by have := (hO0.lt _ e).2; omega⟩)
        clear Rb Rr hO0 hF0 hSy hC hG
        have Xb := Blk.new w5 45 #[.int .i64 y, .string ys, .slice Ay ky.len cy]
        have Rb6 := Rb5.alloc (.cells #[.int .i64 y, .string ys, .slice Ay ky.len cy] 45)
        have R6 := R5.alloc (.cells #[.int .i64 y, .string ys, .slice Ay ky.len cy] 45)
        have hc6 := hc5.alloc (.cells #[.int .i64 y, .string ys, .slice Ay ky.len cy] 45)
        have G6 := gr_alloc G5 (.cells #[.int .i64 y, .string ys, .slice Ay ky.len cy] 45)
        have hO6 := hO5.alloc (.cells #[.int .i64 y, .string ys, .slice Ay ky.len cy] 45)
        have hF6 := hF5.keep (w' := w5.alloc (.cells #[.int .i64 y, .string ys, .slice Ay ky.len cy] 45)) (P' := fun b => rb < b ∧ b < (w5.alloc (.cells #[.int .i64 y, .string ys, .slice Ay ky.len cy] 45)).heap.size ∧ (Value.slice Av l.length cv).ownBlock ≠ some b) (fun p hp => World.cell?_alloc_lt _ _ _ hp.2.1) (fun b hb => ⟨hb.1, by rw [alloc_size]; omega, hb.2.2⟩)
        have hE6 := hE5.keep (w' := w5.alloc (.cells #[.int .i64 y, .string ys, .slice Ay ky.len cy] 45)) (P' := fun b => rb < b ∧ b < (w5.alloc (.cells #[.int .i64 y, .string ys, .slice Ay ky.len cy] 45)).heap.size ∧ (Value.slice Av l.length cv).ownBlock ≠ some b) (fun p hp => World.cell?_alloc_lt _ _ _ hp.2.1) (fun b hb => ⟨hb.1, by rw [alloc_size]; omega, hb.2.2⟩)
        have hvx : ∀ b, (Value.slice Av l.length cv).ownBlock = some b → b < w5.heap.size := fun b e => (hO5.lt _ e).2
        have hFx : Fit rexC (w5.alloc (.cells #[.int .i64 y, .string ys, .slice Ay ky.len cy] 45)) (fun b => rb < b ∧ b < w5.heap.size ∧ (Value.slice Av l.length cv).ownBlock ≠ some b) L l := hF5.keep (fun p hp => World.cell?_alloc_lt _ _ _ hp.2.1) (fun b hb => hb)
        have hrb5 : rb < w5.heap.size := by omega
        clear Rb5 R5 hc5 G5 hO5 hF5 hE5
        have cY := fun w => sRep y w
        have hwcs := alloc_size w5 (.cells #[.int .i64 y, .string ys, .slice Ay ky.len cy] 45)
        have hwcs2 := Nat.le_of_eq hwcs
        have hwcs3 := Nat.le_of_eq hwcs.symm
        clear hwcs
        cases hyk : (y == k)
        · have hgk := HKD.out y hyk (fun h => by rw [HR.out] at h; cases h)
          clear cY
          go_wp2_with fail
          generalize w5.alloc (.cells #[.int .i64 y, .string ys, .slice Ay ky.len cy] 45) = wc at Xb Rb6 R6 hc6 G6 hO6 hF6 hE6 hFx hwcs2 hwcs3 ⊢
          generalize w5.heap.size = xb at Xb hvx hFx hrb5 hwcs2 hwcs3 s5 ⊢
          refine (CR2.out _).mono ?_; rintro e wz ⟨rfl, rfl⟩
          skip
          have Rb := Rb6
          have Rr := R6
          have hcc := hc6
          have Gc := G6
          have hO := hO6
          have hF := hF6
          have hE := hE6
          have hg : goodR D y ys ky ∧ kindB k y := ⟨hgy, hgk⟩
          clear Rb6 R6 hc6 G6 hO6 hF6 hE6 hFx
          have pR := Rb.cell
          have fR := Rb.frozen
          have pX := Xb.cell
          have hcl := hcc.lt
          go_wp2_with (at_builtin; refine wpList_pushB rfl _ _ 43 rfl (rb + 1) 45 j0 (.agg #[.int .i64 0, .string ⟨#[]⟩, .slice none 0 0]) 3 48 Try.underlying43 hj hy0 hy1 hy2 rfl (by decide) _ _ _ rfl hO [.int .i64 y, .string ys, .slice Ay ky.len cy] rfl rfl rfl (by omega) (by omega) (by have := Rb.lt; omega) ?_)
          intro v' w7 hO7 hg7 hv7
          obtain ⟨A7, c7, rfl⟩ := (Row.mk hO7).form
          have hne7 : ∀ k, (Value.slice Av l.length cv).ownBlock = some k → rb < k := fun k e => (hO.lt k e).1
          have R7 := Rr.grown hg7 (fun e => by have := hne7 _ e.symm; omega)
          have Rb7 := Rb.grown hg7 (fun e => by have := hne7 _ e.symm; omega)
          have hc7 := hcc.far hg7 (fun k e => by have := hne7 k e; have := hcc.le; omega)
          have G7 : w.grownBy w7 (some g) := ⟨hg7.os.trans Gc.os, hg7.tape.trans Gc.tape, hg7.output.trans Gc.output, Nat.le_trans Gc.size hg7.size, fun k hk hk' => (hg7.block k (Nat.lt_of_lt_of_le hk Gc.size) (fun e => by have := hne7 _ e.symm; omega)).trans (Gc.block k hk hk')⟩
          have sz7 := hg7.size
          have hF7 : Fit rexC w7 (fun b => rb < b ∧ b < w7.heap.size ∧ (Value.slice A7 (l.length + 1) c7).ownBlock ≠ some b) (L ++ [((y, ys), ky)]) (l ++ [((y, ys), .slice Ay ky.len cy)]) := (hF.snoc hE).keep (fun p hp => World.cell?_of_block (hg7.block p.block hp.2.1 (fun e => hp.2.2 e.symm))) (fun b hb => ⟨hb.1, by omega, fun e => by
            rcases hv7 with h7 | ⟨k, h7, h8⟩
            · exact hb.2.2 (h7 ▸ e)
            · rw [h7] at e; injection e with e; omega⟩)
          have hO8 : w7.ownsRow (rb + 1) 45 3 (Value.slice A7 (l.length + 1) c7) (l ++ [((y, ys), Value.slice Ay ky.len cy)]).length (flat (rC rexC) (l ++ [((y, ys), Value.slice Ay ky.len cy)])) := by
            rw [List.length_append, ← flat_snoc]
            exact hO7
          have f7 := Rb7.frozen
          have p7 := Rb7.cell
          go_wp2_with fail
          have R8 := R7.farb (b := rb) (j := 2) (by omega) (Value.slice A7 (l.length + 1) c7)
          have Rb8 := Rb7.set_ 2 (Value.slice A7 (l.length + 1) c7)
          have hc8 := hc7.setn (b := rb) (j := 2) (by omega) (Value.slice A7 (l.length + 1) c7)
          have G8 := gr_setn (b := rb) (j := 2) G7 (by omega) (Value.slice A7 (l.length + 1) c7)
          have hO9 : (w7.setCell ⟨rb, 2, none⟩ (Value.slice A7 (l.length + 1) c7)).ownsRow (rb + 1) 45 3 (Value.slice A7 (l.length + 1) c7) _ _ := ownsRow_setCell_other hO8 (fun e => by have := (hO8.lt _ e).1; simp only at this; omega) (Value.slice A7 (l.length + 1) c7)
          have hF8 := hF7.keep (w' := w7.setCell ⟨rb, 2, none⟩ (Value.slice A7 (l.length + 1) c7)) (P' := fun b => rb < b ∧ b < (w7.setCell ⟨rb, 2, none⟩ (Value.slice A7 (l.length + 1) c7)).heap.size ∧ (Value.slice A7 (l.length + 1) c7).ownBlock ≠ some b) (fun p hp => World.cell?_setCell_other _ _ _ _ (fun e => by have := hp.1; rw [← e] at this; exact Nat.lt_irrefl _ this)) (fun b hb => ⟨hb.1, by simp; exact hb.2.1, hb.2.2⟩)
          simp only [List.setIfInBounds_toArray, List.set_cons_succ, List.set_cons_zero] at Rb8
          go_wp2_with fail
          go_roundw
          case rel => exact ⟨q + 1, _, _, _, by omega, by go_num, Rb8, R8, hO9, hF8, by rw [List.length_append, hLq]; rfl, fun x hx => by rcases List.mem_append.1 hx with h | h; exact hL x h; (rw [List.mem_singleton.1 h]; exact hg), hc8, G8⟩
          case measure => (simp [intOf] <;> omega)
        · clear cY
          go_wp2_with fail
          generalize w5.alloc (.cells #[.int .i64 y, .string ys, .slice Ay ky.len cy] 45) = wc at Xb Rb6 R6 hc6 G6 hO6 hF6 hE6 hFx hwcs2 hwcs3 ⊢
          generalize w5.heap.size = xb at Xb hvx hFx hrb5 hwcs2 hwcs3 s5 ⊢
          refine (dLeaf B g _ hc6).mono ?_; rintro e w8 ⟨⟨lk, ls, rfl, hzz, hz1, hz2, hz3⟩, hc8, hg8⟩
          have s8 := hg8.size
          have Rb8 := Rb6.grown hg8 (by simp; omega)
          have R8 := R6.grown hg8 (by simp; omega)
          have X8 := Xb.grown hg8 (by simp; have := hc.le; omega)
          have G8 := gr_trans G6 hg8
          have hO8 := hO6.kept hg8 (.inr (fun e => by have := (hO6.lt _ e).1; omega))
          have pX8 := X8.cell
          have fX8 := X8.frozen
          have hxbw : xb < w8.heap.size := X8.lt
          have hhw : w.heap.size < xb := by omega
          have Rb := ((Rb8.farb (b := xb) (j := 0) (by omega) (.int .i64 lk)).farb (b := xb) (j := 1) (by omega) (.string ls)).farb (b := xb) (j := 2) (by omega) (.slice none 0 0)
          have Rr := ((R8.farb (b := xb) (j := 0) (by omega) (.int .i64 lk)).farb (b := xb) (j := 1) (by omega) (.string ls)).farb (b := xb) (j := 2) (by omega) (.slice none 0 0)
          have Xb9 := ((X8.set_ 0 (.int .i64 lk)).set_ 1 (.string ls)).set_ 2 (.slice none 0 0)
          simp only [List.setIfInBounds_toArray, List.set_cons_succ, List.set_cons_zero] at Xb9
          have Xb := Xb9
          have hcc := ((hc8.setn (b := xb) (j := 0) (by omega) (.int .i64 lk)).setn (b := xb) (j := 1) (by omega) (.string ls)).setn (b := xb) (j := 2) (by omega) (.slice none 0 0)
          have Gc := gr_setn (b := xb) (j := 2) (gr_setn (b := xb) (j := 1) (gr_setn (b := xb) (j := 0) G8 (by omega) (.int .i64 lk)) (by omega) (.string ls)) (by omega) (.slice none 0 0)
          have hvx8 : (Value.slice Av l.length cv).ownBlock ≠ some xb := fun e => Nat.lt_irrefl _ (hvx _ e)
          have hO := ownsRow_setCell_other (a := ⟨xb, 2, none⟩) (ownsRow_setCell_other (a := ⟨xb, 1, none⟩) (ownsRow_setCell_other (a := ⟨xb, 0, none⟩) hO8 hvx8 (.int .i64 lk)) hvx8 (.string ls)) hvx8 (.slice none 0 0)
          have hw9 : (((w8.setCell ⟨xb, 0, none⟩ (.int .i64 lk)).setCell ⟨xb, 1, none⟩ (.string ls)).setCell ⟨xb, 2, none⟩ (.slice none 0 0)).heap.size = w8.heap.size := by simp
          have hF9 : Fit rexC (((w8.setCell ⟨xb, 0, none⟩ (.int .i64 lk)).setCell ⟨xb, 1, none⟩ (.string ls)).setCell ⟨xb, 2, none⟩ (.slice none 0 0)) (fun b => rb < b ∧ b < xb ∧ (Value.slice Av l.length cv).ownBlock ≠ some b) L l := hFx.keep (fun p hp => by
            have hne : ∀ j, (⟨xb, j, none⟩ : Addr) ≠ p := fun j e => by have := hp.2.1; rw [← e] at this; exact Nat.lt_irrefl _ this
            rw [World.cell?_setCell_other _ _ _ _ (hne 2), World.cell?_setCell_other _ _ _ _ (hne 1), World.cell?_setCell_other _ _ _ _ (hne 0)]
            exact World.cell?_of_block (hg8.block p.block (by have := hp.2.1; omega) (fun e => by injection e with e; have := hp.1; omega))) (fun b hb => hb)
          have hF := hF9.keep (P' := fun b => rb < b ∧ b < (((w8.setCell ⟨xb, 0, none⟩ (.int .i64 lk)).setCell ⟨xb, 1, none⟩ (.string ls)).setCell ⟨xb, 2, none⟩ (.slice none 0 0)).heap.size ∧ (Value.slice Av l.length cv).ownBlock ≠ some b) (fun _ _ => rfl) (fun b hb => ⟨hb.1, by rw [hw9]; omega, hb.2.2⟩)
          have hE : SlP rexC (((w8.setCell ⟨xb, 0, none⟩ (.int .i64 lk)).setCell ⟨xb, 1, none⟩ (.string ls)).setCell ⟨xb, 2, none⟩ (.slice none 0 0)) (fun b => rb < b ∧ b < (((w8.setCell ⟨xb, 0, none⟩ (.int .i64 lk)).setCell ⟨xb, 1, none⟩ (.string ls)).setCell ⟨xb, 2, none⟩ (.slice none 0 0)).heap.size ∧ (Value.slice Av l.length cv).ownBlock ≠ some b) none 0 .nil := ⟨Nat.le_refl 0, fun h => absurd h (Nat.lt_irrefl 0)⟩
          have hg : goodR D lk ls .nil ∧ kindB k lk := ⟨leaf_good hzz D, HKL.out lk hz1 hz2 hz3⟩
          clear Xb9 Rb8 R8 X8 hc8 G8 hO8 hF9 hFx Rb6 R6 hc6 G6 hO6 hF6 hE6 hgy
          clear hw9
          go_upto_region 14 with fail
          generalize ((w8.setCell ⟨xb, 0, none⟩ (.int .i64 lk)).setCell ⟨xb, 1, none⟩ (.string ls)).setCell ⟨xb, 2, none⟩ (.slice none 0 0) = wn at Rb Rr Xb hcc Gc hO hF hE ⊢
          clear pX8 fX8
          have pR := Rb.cell
          have fR := Rb.frozen
          have pX := Xb.cell
          have hcl := hcc.lt
          go_wp2_with (at_builtin; refine wpList_pushB rfl _ _ 43 rfl (rb + 1) 45 j0 (.agg #[.int .i64 0, .string ⟨#[]⟩, .slice none 0 0]) 3 48 Try.underlying43 hj hy0 hy1 hy2 rfl (by decide) _ _ _ rfl hO [.int .i64 lk, .string ls, .slice none (Fr.nil : Fr (Int × ByteArray)).len 0] rfl rfl rfl (by omega) (by omega) (by have := Rb.lt; omega) ?_)
          intro v' w7 hO7 hg7 hv7
          obtain ⟨A7, c7, rfl⟩ := (Row.mk hO7).form
          have hne7 : ∀ k, (Value.slice Av l.length cv).ownBlock = some k → rb < k := fun k e => (hO.lt k e).1
          have R7 := Rr.grown hg7 (fun e => by have := hne7 _ e.symm; omega)
          have Rb7 := Rb.grown hg7 (fun e => by have := hne7 _ e.symm; omega)
          have hc7 := hcc.far hg7 (fun k e => by have := hne7 k e; have := hcc.le; omega)
          have G7 : w.grownBy w7 (some g) := ⟨hg7.os.trans Gc.os, hg7.tape.trans Gc.tape, hg7.output.trans Gc.output, Nat.le_trans Gc.size hg7.size, fun k hk hk' => (hg7.block k (Nat.lt_of_lt_of_le hk Gc.size) (fun e => by have := hne7 _ e.symm; omega)).trans (Gc.block k hk hk')⟩
          have sz7 := hg7.size
          have hF7 : Fit rexC w7 (fun b => rb < b ∧ b < w7.heap.size ∧ (Value.slice A7 (l.length + 1) c7).ownBlock ≠ some b) (L ++ [((lk, ls), (Fr.nil : Fr (Int × ByteArray)))]) (l ++ [((lk, ls), .slice none (Fr.nil : Fr (Int × ByteArray)).len 0)]) := (hF.snoc hE).keep (fun p hp => World.cell?_of_block (hg7.block p.block hp.2.1 (fun e => hp.2.2 e.symm))) (fun b hb => ⟨hb.1, by omega, fun e => by
            rcases hv7 with h7 | ⟨k, h7, h8⟩
            · exact hb.2.2 (h7 ▸ e)
            · rw [h7] at e; injection e with e; omega⟩)
          have hO8 : w7.ownsRow (rb + 1) 45 3 (Value.slice A7 (l.length + 1) c7) (l ++ [((lk, ls), Value.slice none (Fr.nil : Fr (Int × ByteArray)).len 0)]).length (flat (rC rexC) (l ++ [((lk, ls), Value.slice none (Fr.nil : Fr (Int × ByteArray)).len 0)])) := by
            rw [List.length_append, ← flat_snoc]
            exact hO7
          have f7 := Rb7.frozen
          have p7 := Rb7.cell
          go_wp2_with fail
          have R8 := R7.farb (b := rb) (j := 2) (by omega) (Value.slice A7 (l.length + 1) c7)
          have Rb8 := Rb7.set_ 2 (Value.slice A7 (l.length + 1) c7)
          have hc8 := hc7.setn (b := rb) (j := 2) (by omega) (Value.slice A7 (l.length + 1) c7)
          have G8 := gr_setn (b := rb) (j := 2) G7 (by omega) (Value.slice A7 (l.length + 1) c7)
          have hO9 : (w7.setCell ⟨rb, 2, none⟩ (Value.slice A7 (l.length + 1) c7)).ownsRow (rb + 1) 45 3 (Value.slice A7 (l.length + 1) c7) _ _ := ownsRow_setCell_other hO8 (fun e => by have := (hO8.lt _ e).1; simp only at this; omega) (Value.slice A7 (l.length + 1) c7)
          have hF8 := hF7.keep (w' := w7.setCell ⟨rb, 2, none⟩ (Value.slice A7 (l.length + 1) c7)) (P' := fun b => rb < b ∧ b < (w7.setCell ⟨rb, 2, none⟩ (Value.slice A7 (l.length + 1) c7)).heap.size ∧ (Value.slice A7 (l.length + 1) c7).ownBlock ≠ some b) (fun p hp => World.cell?_setCell_other _ _ _ _ (fun e => by have := hp.1; rw [← e] at this; exact Nat.lt_irrefl _ this)) (fun b hb => ⟨hb.1, by simp; exact hb.2.1, hb.2.2⟩)
          simp only [List.setIfInBounds_toArray, List.set_cons_succ, List.set_cons_zero] at Rb8
          go_wp2_with fail
          go_roundw
          case rel => exact ⟨q + 1, _, _, _, by omega, by go_num, Rb8, R8, hO9, hF8, by rw [List.length_append, hLq]; rfl, fun x hx => by rcases List.mem_append.1 hx with h | h; exact hL x h; (rw [List.mem_singleton.1 h]; exact hg), hc8, G8⟩
          case measure => (simp [intOf] <;> omega)
      · obtain rfl : q = N := by omega
        have hlen := hLq.out
        have HGD := Lib.hid (good_mk (D := D) (by omega) HKK.out hL (by rw [hlen]; exact ⟨HK1.out.1, fun h => by first | rfl | exact HK1.out.2 h⟩))
        clear hlen
        obtain ⟨Aw, cw, hvw, hSl⟩ := row_of_fit (lo := rb + 1) (hi := wr.heap.size) (Row.mk hO0) hF0 (fun b hb => ⟨hb.1, hb.2.1⟩)
        rw [hvw] at Rb
        clear hvw
        have p1 := Rr.cell
        have f1 := Rr.frozen
        have pR := Rb.cell
        have hgs := hG.size
        go_wp2_with fail
        exact bodyPost_ret (res_cell1 rfl _ _ _ _ _ _ rfl (((Rr.set_ 0 _).set_ 1 _).set_ 2 _) Try.underlying45 (by kernel_rfl)) rfl ⟨⟨k, ⟨#[]⟩, mkFr L, Aw, cw, rfl, (((hSl.setb (.inl (by omega)) _).setb (.inl (by omega)) _).setb (.inl (by omega)) _).more (by omega) (by simp), HGD.out⟩, ((hC.setn (by omega) _).setn (by omega) _).setn (by omega) _, gr_setn (gr_setn (gr_setn hG (Nat.le_refl _) _) (Nat.le_refl _) _) (Nat.le_refl _) _⟩
  case true =>
    have hNi : N = 1 := hN1 hr
    subst hNi
    have HR := Lib.hid hr
    have cR2 := CR.out
    simp only [hr] at cR2
    have CR2 := Lib.hid cR2
    clear cR2 hr CR hN1 hN2
    go_wp2_with fail
    go_loopw [8] (fun i wr => ∃ (q : Nat) (L : List ((Int × ByteArray) × Fr (Int × ByteArray))) (l : List ((Int × ByteArray) × Value)) (v : Value), q ≤ 1 ∧ i = .int .i64 q ∧ Blk wr rb 45 #[.int .i64 k, .string ⟨#[]⟩, v] ∧ Blk wr w.heap.size 45 #[.int .i64 0, .string ⟨#[]⟩, .slice none 0 0] ∧ wr.ownsRow (rb + 1) 45 3 v l.length (flat (rC rexC) l) ∧ Fit rexC wr (fun b => rb < b ∧ b < wr.heap.size ∧ v.ownBlock ≠ some b) L l ∧ L.length = q ∧ (∀ x ∈ L, goodR D x.1.1 x.1.2 x.2 ∧ kindB k x.1.1) ∧ Cur B wr g ∧ w.grownBy wr (some g)) (fun i _ => 1 - (intOf i).toNat)
    case atStart => exact ⟨0, [], [], .slice none 0 0, Nat.zero_le _, rfl, Rb4, R4, World.ownsRow_nil _ _ _ _, Fit.nil _ _ _, rfl, fun x hx => (by cases hx), hc4, G4⟩
    case round =>
      clear Rb4 R4 hc4 G4 hg4 hc3
      obtain ⟨q, L, l, v, hq, rfl, Rb, Rr, hO0, hF0, hLq0, hL, hC, hG⟩ := hrel
      obtain ⟨Av, cv, rfl⟩ := (Row.mk hO0).form
      have hLq := Lib.hid hLq0
      have hll : l.length ≤ 3 := by rw [hF0.1, hLq0]; omega
      clear hLq0
      by_cases hlt : q < 1
      · have hlt' : (q : Int) < 1 := by omega
        go_wp2_with fail
        refine (IH.out _ hC).mono ?_; rintro e w5 ⟨⟨y, ys, ky, Ay, cy, rfl, hSy, hgy⟩, hc5, hg5⟩
        have hrl := Rb.lt
        have s5 := hg5.size
        have Rb5 := Rb.grown hg5 (by simp; omega)
        have R5 := Rr.grown hg5 (by simp; omega)
        have G5 := gr_trans hG hg5
        have hO5 := hO0.kept hg5 (.inr (fun e => by have := (hO0.lt _ e).1; omega))
        have hF5 := hF0.keep (w' := w5) (P' := fun b => rb < b ∧ b < w5.heap.size ∧ (Value.slice Av l.length cv).ownBlock ≠ some b) (fun p hp => World.cell?_of_block (hg5.block p.block hp.2.1 (fun e => by injection e with e; have := hp.1; omega))) (fun b hb => ⟨hb.1, by omega, hb.2.2⟩)
        have hE5 : SlP rexC w5 (fun b => rb < b ∧ b < w5.heap.size ∧ (Value.slice Av l.length cv).ownBlock ≠ some b) Ay cy ky := hSy.toP.keep (fun _ _ => rfl) (fun b hb => ⟨by omega, hb.2, fun e => by have := (hO0.lt _ e).2; omega⟩)
        clear Rb Rr hO0 hF0 hSy hC hG
        have Xb := Blk.new w5 45 #[.int .i64 y, .string ys, .slice Ay ky.len cy]
        have Rb6 := Rb5.alloc (.cells #[.int .i64 y, .string ys, .slice Ay ky.len cy] 45)
        have R6 := R5.alloc (.cells #[.int .i64 y, .string ys, .slice Ay ky.len cy] 45)
        have hc6 := hc5.alloc (.cells #[.int .i64 y, .string ys, .slice Ay ky.len cy] 45)
        have G6 := gr_alloc G5 (.cells #[.int .i64 y, .string ys, .slice Ay ky.len cy] 45)
        have hO6 := hO5.alloc (.cells #[.int .i64 y, .string ys, .slice Ay ky.len cy] 45)
        have hF6 := hF5.keep (w' := w5.alloc (.cells #[.int .i64 y, .string ys, .slice Ay ky.len cy] 45)) (P' := fun b => rb < b ∧ b < (w5.alloc (.cells #[.int .i64 y, .string ys, .slice Ay ky.len cy] 45)).heap.size ∧ (Value.slice Av l.length cv).ownBlock ≠ some b) (fun p hp => World.cell?_alloc_lt _ _ _ hp.2.1) (fun b hb => ⟨hb.1, by rw [alloc_size]; omega, hb.2.2⟩)
        have hE6 := hE5.keep (w' := w5.alloc (.cells #[.int .i64 y, .string ys, .slice Ay ky.len cy] 45)) (P' := fun b => rb < b ∧ b < (w5.alloc (.cells #[.int .i64 y, .string ys, .slice Ay ky.len cy] 45)).heap.size ∧ (Value.slice Av l.length cv).ownBlock ≠ some b) (fun p hp => World.cell?_alloc_lt _ _ _ hp.2.1) (fun b hb => ⟨hb.1, by rw [alloc_size]; omega, hb.2.2⟩)
        have hvx : ∀ b, (Value.slice Av l.length cv).ownBlock = some b → b < w5.heap.size := fun b e => (hO5.lt _ e).2
        have hFx : Fit rexC (w5.alloc (.cells #[.int .i64 y, .string ys, .slice Ay ky.len cy] 45)) (fun b => rb < b ∧ b < w5.heap.size ∧ (Value.slice Av l.length cv).ownBlock ≠ some b) L l := hF5.keep (fun p hp => World.cell?_alloc_lt _ _ _ hp.2.1) (fun b hb => hb)
        have hrb5 : rb < w5.heap.size := by omega
        clear Rb5 R5 hc5 G5 hO5 hF5 hE5
        have cY := fun w => sRep y w
        have hwcs := alloc_size w5 (.cells #[.int .i64 y, .string ys, .slice Ay ky.len cy] 45)
        have hwcs2 := Nat.le_of_eq hwcs
        have hwcs3 := Nat.le_of_eq hwcs.symm
        clear hwcs
        cases hyk : (y == k)
        · cases hyr : repB y
          · have hgk := HKD.out y hyk (fun _ => hyr)
            simp only [hyr] at cY
            have CY := Lib.hid cY
            clear cY hyr
            go_wp2_with fail
            generalize w5.alloc (.cells #[.int .i64 y, .string ys, .slice Ay ky.len cy] 45) = wc at Xb Rb6 R6 hc6 G6 hO6 hF6 hE6 hFx hwcs2 hwcs3 ⊢
            generalize w5.heap.size = xb at Xb hvx hFx hrb5 hwcs2 hwcs3 s5 ⊢
            have pX0 := Xb.cell
            refine (CR2.out _).mono ?_; rintro e wz ⟨rfl, rfl⟩
            go_wp2_with fail
            clear pX0
            refine (CY.out _).mono ?_; rintro e wz ⟨rfl, rfl⟩
            skip
            have Rb := Rb6
            have Rr := R6
            have hcc := hc6
            have Gc := G6
            have hO := hO6
            have hF := hF6
            have hE := hE6
            have hg : goodR D y ys ky ∧ kindB k y := ⟨hgy, hgk⟩
            clear Rb6 R6 hc6 G6 hO6 hF6 hE6 hFx
            have pR := Rb.cell
            have fR := Rb.frozen
            have pX := Xb.cell
            have hcl := hcc.lt
            go_wp2_with (at_builtin; refine wpList_pushB rfl _ _ 43 rfl (rb + 1) 45 j0 (.agg #[.int .i64 0, .string ⟨#[]⟩, .slice none 0 0]) 3 48 Try.underlying43 hj hy0 hy1 hy2 rfl (by decide) _ _ _ rfl hO [.int .i64 y, .string ys, .slice Ay ky.len cy] rfl rfl rfl (by omega) (by omega) (by have := Rb.lt; omega) ?_)
            intro v' w7 hO7 hg7 hv7
            obtain ⟨A7, c7, rfl⟩ := (Row.mk hO7).form
            have hne7 : ∀ k, (Value.slice Av l.length cv).ownBlock = some k → rb < k := fun k e => (hO.lt k e).1
            have R7 := Rr.grown hg7 (fun e => by have := hne7 _ e.symm; omega)
            have Rb7 := Rb.grown hg7 (fun e => by have := hne7 _ e.symm; omega)
            have hc7 := hcc.far hg7 (fun k e => by have := hne7 k e; have := hcc.le; omega)
            have G7 : w.grownBy w7 (some g) := ⟨hg7.os.trans Gc.os, hg7.tape.trans Gc.tape, hg7.output.trans Gc.output, Nat.le_trans Gc.size hg7.size, fun k hk hk' => (hg7.block k (Nat.lt_of_lt_of_le hk Gc.size) (fun e => by have := hne7 _ e.symm; omega)).trans (Gc.block k hk hk')⟩
            have sz7 := hg7.size
            have hF7 : Fit rexC w7 (fun b => rb < b ∧ b < w7.heap.size ∧ (Value.slice A7 (l.length + 1) c7).ownBlock ≠ some b) (L ++ [((y, ys), ky)]) (l ++ [((y, ys), .slice Ay ky.len cy)]) := (hF.snoc hE).keep (fun p hp => World.cell?_of_block (hg7.block p.block hp.2.1 (fun e => hp.2.2 e.symm))) (fun b hb => ⟨hb.1, by omega, fun e => by
              rcases hv7 with h7 | ⟨k, h7, h8⟩
              · exact hb.2.2 (h7 ▸ e)
              · rw [h7] at e; injection e with e; omega⟩)
            have hO8 : w7.ownsRow (rb + 1) 45 3 (Value.slice A7 (l.length + 1) c7) (l ++ [((y, ys), Value.slice Ay ky.len cy)]).length (flat (rC rexC) (l ++ [((y, ys), Value.slice Ay ky.len cy)])) := by
              rw [List.length_append, ← flat_snoc]
              exact hO7
            have f7 := Rb7.frozen
            have p7 := Rb7.cell
            go_wp2_with fail
            have R8 := R7.farb (b := rb) (j := 2) (by omega) (Value.slice A7 (l.length + 1) c7)
            have Rb8 := Rb7.set_ 2 (Value.slice A7 (l.length + 1) c7)
            have hc8 := hc7.setn (b := rb) (j := 2) (by omega) (Value.slice A7 (l.length + 1) c7)
            have G8 := gr_setn (b := rb) (j := 2) G7 (by omega) (Value.slice A7 (l.length + 1) c7)
            have hO9 : (w7.setCell ⟨rb, 2, none⟩ (Value.slice A7 (l.length + 1) c7)).ownsRow (rb + 1) 45 3 (Value.slice A7 (l.length + 1) c7) _ _ := ownsRow_setCell_other hO8 (fun e => by have := (hO8.lt _ e).1; simp only at this; omega) (Value.slice A7 (l.length + 1) c7)
            have hF8 := hF7.keep (w' := w7.setCell ⟨rb, 2, none⟩ (Value.slice A7 (l.length + 1) c7)) (P' := fun b => rb < b ∧ b < (w7.setCell ⟨rb, 2, none⟩ (Value.slice A7 (l.length + 1) c7)).heap.size ∧ (Value.slice A7 (l.length + 1) c7).ownBlock ≠ some b) (fun p hp => World.cell?_setCell_other _ _ _ _ (fun e => by have := hp.1; rw [← e] at this; exact Nat.lt_irrefl _ this)) (fun b hb => ⟨hb.1, by simp; exact hb.2.1, hb.2.2⟩)
            simp only [List.setIfInBounds_toArray, List.set_cons_succ, List.set_cons_zero] at Rb8
            go_wp2_with fail
            go_roundw
            case rel => exact ⟨q + 1, _, _, _, by omega, by go_num, Rb8, R8, hO9, hF8, by rw [List.length_append, hLq]; rfl, fun x hx => by rcases List.mem_append.1 hx with h | h; exact hL x h; (rw [List.mem_singleton.1 h]; exact hg), hc8, G8⟩
            case measure => (simp [intOf] <;> omega)
          · simp only [hyr] at cY
            have CY := Lib.hid cY
            clear cY hyr
            go_wp2_with fail
            generalize w5.alloc (.cells #[.int .i64 y, .string ys, .slice Ay ky.len cy] 45) = wc at Xb Rb6 R6 hc6 G6 hO6 hF6 hE6 hFx hwcs2 hwcs3 ⊢
            generalize w5.heap.size = xb at Xb hvx hFx hrb5 hwcs2 hwcs3 s5 ⊢
            have pX0 := Xb.cell
            refine (CR2.out _).mono ?_; rintro e wz ⟨rfl, rfl⟩
            go_wp2_with fail
            clear pX0
            refine (CY.out _).mono ?_; rintro e wz ⟨rfl, rfl⟩
            go_wp2_with fail
            refine (dLeaf B g _ hc6).mono ?_; rintro e w8 ⟨⟨lk, ls, rfl, hzz, hz1, hz2, hz3⟩, hc8, hg8⟩
            have s8 := hg8.size
            have Rb8 := Rb6.grown hg8 (by simp; omega)
            have R8 := R6.grown hg8 (by simp; omega)
            have X8 := Xb.grown hg8 (by simp; have := hc.le; omega)
            have G8 := gr_trans G6 hg8
            have hO8 := hO6.kept hg8 (.inr (fun e => by have := (hO6.lt _ e).1; omega))
            have pX8 := X8.cell
            have fX8 := X8.frozen
            have hxbw : xb < w8.heap.size := X8.lt
            have hhw : w.heap.size < xb := by omega
            have Rb := ((Rb8.farb (b := xb) (j := 0) (by omega) (.int .i64 lk)).farb (b := xb) (j := 1) (by omega) (.string ls)).farb (b := xb) (j := 2) (by omega) (.slice none 0 0)
            have Rr := ((R8.farb (b := xb) (j := 0) (by omega) (.int .i64 lk)).farb (b := xb) (j := 1) (by omega) (.string ls)).farb (b := xb) (j := 2) (by omega) (.slice none 0 0)
            have Xb9 := ((X8.set_ 0 (.int .i64 lk)).set_ 1 (.string ls)).set_ 2 (.slice none 0 0)
            simp only [List.setIfInBounds_toArray, List.set_cons_succ, List.set_cons_zero] at Xb9
            have Xb := Xb9
            have hcc := ((hc8.setn (b := xb) (j := 0) (by omega) (.int .i64 lk)).setn (b := xb) (j := 1) (by omega) (.string ls)).setn (b := xb) (j := 2) (by omega) (.slice none 0 0)
            have Gc := gr_setn (b := xb) (j := 2) (gr_setn (b := xb) (j := 1) (gr_setn (b := xb) (j := 0) G8 (by omega) (.int .i64 lk)) (by omega) (.string ls)) (by omega) (.slice none 0 0)
            have hvx8 : (Value.slice Av l.length cv).ownBlock ≠ some xb := fun e => Nat.lt_irrefl _ (hvx _ e)
            have hO := ownsRow_setCell_other (a := ⟨xb, 2, none⟩) (ownsRow_setCell_other (a := ⟨xb, 1, none⟩) (ownsRow_setCell_other (a := ⟨xb, 0, none⟩) hO8 hvx8 (.int .i64 lk)) hvx8 (.string ls)) hvx8 (.slice none 0 0)
            have hw9 : (((w8.setCell ⟨xb, 0, none⟩ (.int .i64 lk)).setCell ⟨xb, 1, none⟩ (.string ls)).setCell ⟨xb, 2, none⟩ (.slice none 0 0)).heap.size = w8.heap.size := by simp
            have hF9 : Fit rexC (((w8.setCell ⟨xb, 0, none⟩ (.int .i64 lk)).setCell ⟨xb, 1, none⟩ (.string ls)).setCell ⟨xb, 2, none⟩ (.slice none 0 0)) (fun b => rb < b ∧ b < xb ∧ (Value.slice Av l.length cv).ownBlock ≠ some b) L l := hFx.keep (fun p hp => by
              have hne : ∀ j, (⟨xb, j, none⟩ : Addr) ≠ p := fun j e => by have := hp.2.1; rw [← e] at this; exact Nat.lt_irrefl _ this
              rw [World.cell?_setCell_other _ _ _ _ (hne 2), World.cell?_setCell_other _ _ _ _ (hne 1), World.cell?_setCell_other _ _ _ _ (hne 0)]
              exact World.cell?_of_block (hg8.block p.block (by have := hp.2.1; omega) (fun e => by injection e with e; have := hp.1; omega))) (fun b hb => hb)
            have hF := hF9.keep (P' := fun b => rb < b ∧ b < (((w8.setCell ⟨xb, 0, none⟩ (.int .i64 lk)).setCell ⟨xb, 1, none⟩ (.string ls)).setCell ⟨xb, 2, none⟩ (.slice none 0 0)).heap.size ∧ (Value.slice Av l.length cv).ownBlock ≠ some b) (fun _ _ => rfl) (fun b hb => ⟨hb.1, by rw [hw9]; omega, hb.2.2⟩)
            have hE : SlP rexC (((w8.setCell ⟨xb, 0, none⟩ (.int .i64 lk)).setCell ⟨xb, 1, none⟩ (.string ls)).setCell ⟨xb, 2, none⟩ (.slice none 0 0)) (fun b => rb < b ∧ b < (((w8.setCell ⟨xb, 0, none⟩ (.int .i64 lk)).setCell ⟨xb, 1, none⟩ (.string ls)).setCell ⟨xb, 2, none⟩ (.slice none 0 0)).heap.size ∧ (Value.slice Av l.length cv).ownBlock ≠ some b) none 0 .nil := ⟨Nat.le_refl 0, fun h => absurd h (Nat.lt_irrefl 0)⟩
            have hg : goodR D lk ls .nil ∧ kindB k lk := ⟨leaf_good hzz D, HKL.out lk hz1 hz2 hz3⟩
            clear Xb9 Rb8 R8 X8 hc8 G8 hO8 hF9 hFx Rb6 R6 hc6 G6 hO6 hF6 hE6 hgy
            clear hw9
            go_upto_region 14 with fail
            generalize ((w8.setCell ⟨xb, 0, none⟩ (.int .i64 lk)).setCell ⟨xb, 1, none⟩ (.string ls)).setCell ⟨xb, 2, none⟩ (.slice none 0 0) = wn at Rb Rr Xb hcc Gc hO hF hE ⊢
            clear pX8 fX8
            have pR := Rb.cell
            have fR := Rb.frozen
            have pX := Xb.cell
            have hcl := hcc.lt
            go_wp2_with (at_builtin; refine wpList_pushB rfl _ _ 43 rfl (rb + 1) 45 j0 (.agg #[.int .i64 0, .string ⟨#[]⟩, .slice none 0 0]) 3 48 Try.underlying43 hj hy0 hy1 hy2 rfl (by decide) _ _ _ rfl hO [.int .i64 lk, .string ls, .slice none (Fr.nil : Fr (Int × ByteArray)).len 0] rfl rfl rfl (by omega) (by omega) (by have := Rb.lt; omega) ?_)
            intro v' w7 hO7 hg7 hv7
            obtain ⟨A7, c7, rfl⟩ := (Row.mk hO7).form
            have hne7 : ∀ k, (Value.slice Av l.length cv).ownBlock = some k → rb < k := fun k e => (hO.lt k e).1
            have R7 := Rr.grown hg7 (fun e => by have := hne7 _ e.symm; omega)
            have Rb7 := Rb.grown hg7 (fun e => by have := hne7 _ e.symm; omega)
            have hc7 := hcc.far hg7 (fun k e => by have := hne7 k e; have := hcc.le; omega)
            have G7 : w.grownBy w7 (some g) := ⟨hg7.os.trans Gc.os, hg7.tape.trans Gc.tape, hg7.output.trans Gc.output, Nat.le_trans Gc.size hg7.size, fun k hk hk' => (hg7.block k (Nat.lt_of_lt_of_le hk Gc.size) (fun e => by have := hne7 _ e.symm; omega)).trans (Gc.block k hk hk')⟩
            have sz7 := hg7.size
            have hF7 : Fit rexC w7 (fun b => rb < b ∧ b < w7.heap.size ∧ (Value.slice A7 (l.length + 1) c7).ownBlock ≠ some b) (L ++ [((lk, ls), (Fr.nil : Fr (Int × ByteArray)))]) (l ++ [((lk, ls), .slice none (Fr.nil : Fr (Int × ByteArray)).len 0)]) := (hF.snoc hE).keep (fun p hp => World.cell?_of_block (hg7.block p.block hp.2.1 (fun e => hp.2.2 e.symm))) (fun b hb => ⟨hb.1, by omega, fun e => by
              rcases hv7 with h7 | ⟨k, h7, h8⟩
              · exact hb.2.2 (h7 ▸ e)
              · rw [h7] at e; injection e with e; omega⟩)
            have hO8 : w7.ownsRow (rb + 1) 45 3 (Value.slice A7 (l.length + 1) c7) (l ++ [((lk, ls), Value.slice none (Fr.nil : Fr (Int × ByteArray)).len 0)]).length (flat (rC rexC) (l ++ [((lk, ls), Value.slice none (Fr.nil : Fr (Int × ByteArray)).len 0)])) := by
              rw [List.length_append, ← flat_snoc]
              exact hO7
            have f7 := Rb7.frozen
            have p7 := Rb7.cell
            go_wp2_with fail
            have R8 := R7.farb (b := rb) (j := 2) (by omega) (Value.slice A7 (l.length + 1) c7)
            have Rb8 := Rb7.set_ 2 (Value.slice A7 (l.length + 1) c7)
            have hc8 := hc7.setn (b := rb) (j := 2) (by omega) (Value.slice A7 (l.length + 1) c7)
            have G8 := gr_setn (b := rb) (j := 2) G7 (by omega) (Value.slice A7 (l.length + 1) c7)
            have hO9 : (w7.setCell ⟨rb, 2, none⟩ (Value.slice A7 (l.length + 1) c7)).ownsRow (rb + 1) 45 3 (Value.slice A7 (l.length + 1) c7) _ _ := ownsRow_setCell_other hO8 (fun e => by have := (hO8.lt _ e).1; simp only at this; omega) (Value.slice A7 (l.length + 1) c7)
            have hF8 := hF7.keep (w' := w7.setCell ⟨rb, 2, none⟩ (Value.slice A7 (l.length + 1) c7)) (P' := fun b => rb < b ∧ b < (w7.setCell ⟨rb, 2, none⟩ (Value.slice A7 (l.length + 1) c7)).heap.size ∧ (Value.slice A7 (l.length + 1) c7).ownBlock ≠ some b) (fun p hp => World.cell?_setCell_other _ _ _ _ (fun e => by have := hp.1; rw [← e] at this; exact Nat.lt_irrefl _ this)) (fun b hb => ⟨hb.1, by simp; exact hb.2.1, hb.2.2⟩)
            simp only [List.setIfInBounds_toArray, List.set_cons_succ, List.set_cons_zero] at Rb8
            go_wp2_with fail
            go_roundw
            case rel => exact ⟨q + 1, _, _, _, by omega, by go_num, Rb8, R8, hO9, hF8, by rw [List.length_append, hLq]; rfl, fun x hx => by rcases List.mem_append.1 hx with h | h; exact hL x h; (rw [List.mem_singleton.1 h]; exact hg), hc8, G8⟩
            case measure => (simp [intOf] <;> omega)
        · clear cY
          go_wp2_with fail
          generalize w5.alloc (.cells #[.int .i64 y, .string ys, .slice Ay ky.len cy] 45) = wc at Xb Rb6 R6 hc6 G6 hO6 hF6 hE6 hFx hwcs2 hwcs3 ⊢
          generalize w5.heap.size = xb at Xb hvx hFx hrb5 hwcs2 hwcs3 s5 ⊢
          refine (dLeaf B g _ hc6).mono ?_; rintro e w8 ⟨⟨lk, ls, rfl, hzz, hz1, hz2, hz3⟩, hc8, hg8⟩
          have s8 := hg8.size
          have Rb8 := Rb6.grown hg8 (by simp; omega)
          have R8 := R6.grown hg8 (by simp; omega)
          have X8 := Xb.grown hg8 (by simp; have := hc.le; omega)
          have G8 := gr_trans G6 hg8
          have hO8 := hO6.kept hg8 (.inr (fun e => by have := (hO6.lt _ e).1; omega))
          have pX8 := X8.cell
          have fX8 := X8.frozen
          have hxbw : xb < w8.heap.size := X8.lt
          have hhw : w.heap.size < xb := by omega
          have Rb := ((Rb8.farb (b := xb) (j := 0) (by omega) (.int .i64 lk)).farb (b := xb) (j := 1) (by omega) (.string ls)).farb (b := xb) (j := 2) (by omega) (.slice none 0 0)
          have Rr := ((R8.farb (b := xb) (j := 0) (by omega) (.int .i64 lk)).farb (b := xb) (j := 1) (by omega) (.string ls)).farb (b := xb) (j := 2) (by omega) (.slice none 0 0)
          have Xb9 := ((X8.set_ 0 (.int .i64 lk)).set_ 1 (.string ls)).set_ 2 (.slice none 0 0)
          simp only [List.setIfInBounds_toArray, List.set_cons_succ, List.set_cons_zero] at Xb9
          have Xb := Xb9
          have hcc := ((hc8.setn (b := xb) (j := 0) (by omega) (.int .i64 lk)).setn (b := xb) (j := 1) (by omega) (.string ls)).setn (b := xb) (j := 2) (by omega) (.slice none 0 0)
          have Gc := gr_setn (b := xb) (j := 2) (gr_setn (b := xb) (j := 1) (gr_setn (b := xb) (j := 0) G8 (by omega) (.int .i64 lk)) (by omega) (.string ls)) (by omega) (.slice none 0 0)
          have hvx8 : (Value.slice Av l.length cv).ownBlock ≠ some xb := fun e => Nat.lt_irrefl _ (hvx _ e)
          have hO := ownsRow_setCell_other (a := ⟨xb, 2, none⟩) (ownsRow_setCell_other (a := ⟨xb, 1, none⟩) (ownsRow_setCell_other (a := ⟨xb, 0, none⟩) hO8 hvx8 (.int .i64 lk)) hvx8 (.string ls)) hvx8 (.slice none 0 0)
          have hw9 : (((w8.setCell ⟨xb, 0, none⟩ (.int .i64 lk)).setCell ⟨xb, 1, none⟩ (.string ls)).setCell ⟨xb, 2, none⟩ (.slice none 0 0)).heap.size = w8.heap.size := by simp
          have hF9 : Fit rexC (((w8.setCell ⟨xb, 0, none⟩ (.int .i64 lk)).setCell ⟨xb, 1, none⟩ (.string ls)).setCell ⟨xb, 2, none⟩ (.slice none 0 0)) (fun b => rb < b ∧ b < xb ∧ (Value.slice Av l.length cv).ownBlock ≠ some b) L l := hFx.keep (fun p hp => by
            have hne : ∀ j, (⟨xb, j, none⟩ : Addr) ≠ p := fun j e => by have := hp.2.1; rw [← e] at this; exact Nat.lt_irrefl _ this
            rw [World.cell?_setCell_other _ _ _ _ (hne 2), World.cell?_setCell_other _ _ _ _ (hne 1), World.cell?_setCell_other _ _ _ _ (hne 0)]
            exact World.cell?_of_block (hg8.block p.block (by have := hp.2.1; omega) (fun e => by injection e with e; have := hp.1; omega))) (fun b hb => hb)
          have hF := hF9.keep (P' := fun b => rb < b ∧ b < (((w8.setCell ⟨xb, 0, none⟩ (.int .i64 lk)).setCell ⟨xb, 1, none⟩ (.string ls)).setCell ⟨xb, 2, none⟩ (.slice none 0 0)).heap.size ∧ (Value.slice Av l.length cv).ownBlock ≠ some b) (fun _ _ => rfl) (fun b hb => ⟨hb.1, by rw [hw9]; omega, hb.2.2⟩)
          have hE : SlP rexC (((w8.setCell ⟨xb, 0, none⟩ (.int .i64 lk)).setCell ⟨xb, 1, none⟩ (.string ls)).setCell ⟨xb, 2, none⟩ (.slice none 0 0)) (fun b => rb < b ∧ b < (((w8.setCell ⟨xb, 0, none⟩ (.int .i64 lk)).setCell ⟨xb, 1, none⟩ (.string ls)).setCell ⟨xb, 2, none⟩ (.slice none 0 0)).heap.size ∧ (Value.slice Av l.length cv).ownBlock ≠ some b) none 0 .nil := ⟨Nat.le_refl 0, fun h => absurd h (Nat.lt_irrefl 0)⟩
          have hg : goodR D lk ls .nil ∧ kindB k lk := ⟨leaf_good hzz D, HKL.out lk hz1 hz2 hz3⟩
          clear Xb9 Rb8 R8 X8 hc8 G8 hO8 hF9 hFx Rb6 R6 hc6 G6 hO6 hF6 hE6 hgy
          clear hw9
          go_upto_region 14 with fail
          generalize ((w8.setCell ⟨xb, 0, none⟩ (.int .i64 lk)).setCell ⟨xb, 1, none⟩ (.string ls)).setCell ⟨xb, 2, none⟩ (.slice none 0 0) = wn at Rb Rr Xb hcc Gc hO hF hE ⊢
          clear pX8 fX8
          have pR := Rb.cell
          have fR := Rb.frozen
          have pX := Xb.cell
          have hcl := hcc.lt
          go_wp2_with (at_builtin; refine wpList_pushB rfl _ _ 43 rfl (rb + 1) 45 j0 (.agg #[.int .i64 0, .string ⟨#[]⟩, .slice none 0 0]) 3 48 Try.underlying43 hj hy0 hy1 hy2 rfl (by decide) _ _ _ rfl hO [.int .i64 lk, .string ls, .slice none (Fr.nil : Fr (Int × ByteArray)).len 0] rfl rfl rfl (by omega) (by omega) (by have := Rb.lt; omega) ?_)
          intro v' w7 hO7 hg7 hv7
          obtain ⟨A7, c7, rfl⟩ := (Row.mk hO7).form
          have hne7 : ∀ k, (Value.slice Av l.length cv).ownBlock = some k → rb < k := fun k e => (hO.lt k e).1
          have R7 := Rr.grown hg7 (fun e => by have := hne7 _ e.symm; omega)
          have Rb7 := Rb.grown hg7 (fun e => by have := hne7 _ e.symm; omega)
          have hc7 := hcc.far hg7 (fun k e => by have := hne7 k e; have := hcc.le; omega)
          have G7 : w.grownBy w7 (some g) := ⟨hg7.os.trans Gc.os, hg7.tape.trans Gc.tape, hg7.output.trans Gc.output, Nat.le_trans Gc.size hg7.size, fun k hk hk' => (hg7.block k (Nat.lt_of_lt_of_le hk Gc.size) (fun e => by have := hne7 _ e.symm; omega)).trans (Gc.block k hk hk')⟩
          have sz7 := hg7.size
          have hF7 : Fit rexC w7 (fun b => rb < b ∧ b < w7.heap.size ∧ (Value.slice A7 (l.length + 1) c7).ownBlock ≠ some b) (L ++ [((lk, ls), (Fr.nil : Fr (Int × ByteArray)))]) (l ++ [((lk, ls), .slice none (Fr.nil : Fr (Int × ByteArray)).len 0)]) := (hF.snoc hE).keep (fun p hp => World.cell?_of_block (hg7.block p.block hp.2.1 (fun e => hp.2.2 e.symm))) (fun b hb => ⟨hb.1, by omega, fun e => by
            rcases hv7 with h7 | ⟨k, h7, h8⟩
            · exact hb.2.2 (h7 ▸ e)
            · rw [h7] at e; injection e with e; omega⟩)
          have hO8 : w7.ownsRow (rb + 1) 45 3 (Value.slice A7 (l.length + 1) c7) (l ++ [((lk, ls), Value.slice none (Fr.nil : Fr (Int × ByteArray)).len 0)]).length (flat (rC rexC) (l ++ [((lk, ls), Value.slice none (Fr.nil : Fr (Int × ByteArray)).len 0)])) := by
            rw [List.length_append, ← flat_snoc]
            exact hO7
          have f7 := Rb7.frozen
          have p7 := Rb7.cell
          go_wp2_with fail
          have R8 := R7.farb (b := rb) (j := 2) (by omega) (Value.slice A7 (l.length + 1) c7)
          have Rb8 := Rb7.set_ 2 (Value.slice A7 (l.length + 1) c7)
          have hc8 := hc7.setn (b := rb) (j := 2) (by omega) (Value.slice A7 (l.length + 1) c7)
          have G8 := gr_setn (b := rb) (j := 2) G7 (by omega) (Value.slice A7 (l.length + 1) c7)
          have hO9 : (w7.setCell ⟨rb, 2, none⟩ (Value.slice A7 (l.length + 1) c7)).ownsRow (rb + 1) 45 3 (Value.slice A7 (l.length + 1) c7) _ _ := ownsRow_setCell_other hO8 (fun e => by have := (hO8.lt _ e).1; simp only at this; omega) (Value.slice A7 (l.length + 1) c7)
          have hF8 := hF7.keep (w' := w7.setCell ⟨rb, 2, none⟩ (Value.slice A7 (l.length + 1) c7)) (P' := fun b => rb < b ∧ b < (w7.setCell ⟨rb, 2, none⟩ (Value.slice A7 (l.length + 1) c7)).heap.size ∧ (Value.slice A7 (l.length + 1) c7).ownBlock ≠ some b) (fun p hp => World.cell?_setCell_other _ _ _ _ (fun e => by have := hp.1; rw [← e] at this; exact Nat.lt_irrefl _ this)) (fun b hb => ⟨hb.1, by simp; exact hb.2.1, hb.2.2⟩)
          simp only [List.setIfInBounds_toArray, List.set_cons_succ, List.set_cons_zero] at Rb8
          go_wp2_with fail
          go_roundw
          case rel => exact ⟨q + 1, _, _, _, by omega, by go_num, Rb8, R8, hO9, hF8, by rw [List.length_append, hLq]; rfl, fun x hx => by rcases List.mem_append.1 hx with h | h; exact hL x h; (rw [List.mem_singleton.1 h]; exact hg), hc8, G8⟩
          case measure => (simp [intOf] <;> omega)
      · obtain rfl : q = 1 := by omega
        have hlen := hLq.out
        have HGD := Lib.hid (good_mk (D := D) (by omega) HKK.out hL (by rw [hlen]; exact ⟨HK1.out.1, fun h => by first | rfl | exact HK1.out.2 h⟩))
        clear hlen
        obtain ⟨Aw, cw, hvw, hSl⟩ := row_of_fit (lo := rb + 1) (hi := wr.heap.size) (Row.mk hO0) hF0 (fun b hb => ⟨hb.1, hb.2.1⟩)
        rw [hvw] at Rb
        clear hvw
        have p1 := Rr.cell
        have f1 := Rr.frozen
        have pR := Rb.cell
        have hgs := hG.size
        go_wp2_with fail
        exact bodyPost_ret (res_cell1 rfl _ _ _ _ _ _ rfl (((Rr.set_ 0 _).set_ 1 _).set_ 2 _) Try.underlying45 (by kernel_rfl)) rfl ⟨⟨k, ⟨#[]⟩, mkFr L, Aw, cw, rfl, (((hSl.setb (.inl (by omega)) _).setb (.inl (by omega)) _).setb (.inl (by omega)) _).more (by omega) (by simp), HGD.out⟩, ((hC.setn (by omega) _).setn (by omega) _).setn (by omega) _, gr_setn (gr_setn (gr_setn hG (Nat.le_refl _) _) (Nat.le_refl _) _) (Nat.le_refl _) _⟩
theorem dDraw_zero (B g : Nat) (w : World) (hc : Cur B w g) : Calls Try.prog 71 #[.pointer (some ⟨g, 0, none⟩), .int .i64 ((0 : Nat) : Int)] w fun e w' => RetDraw 0 w e w' ∧ Cur B w' g ∧ w.grownBy w' (some g) := by
  have R0 := Blk.new w 45 #[.int .i64 0, .string ⟨#[]⟩, .slice none 0 0]
  have c0 := hc.alloc (.cells #[.int .i64 0, .string ⟨#[]⟩, .slice none 0 0] 45)
  have g0 := gr_alloc (gr_refl w (some g)) (.cells #[.int .i64 0, .string ⟨#[]⟩, .slice none 0 0] 45)
  have hgl := hc.lt
  have hl1 := R0.lt
  go_enter Try.func71, Try.ntmps71
  go_wp2_with fail
  refine (dLeaf B g _ c0).mono ?_; rintro e w9 ⟨⟨zk, zs, rfl, hzz, _⟩, hc9, hg9⟩
  have R9 := R0.grown hg9 (by simp; omega)
  have G9 := gr_trans g0 hg9
  have p1 := R9.cell
  have f1 := R9.frozen
  go_wp2_with fail
  exact bodyPost_ret (res_cell1 rfl _ _ _ _ _ _ rfl (((R9.set_ 0 _).set_ 1 _).set_ 2 _) Try.underlying45 (by kernel_rfl)) rfl ⟨⟨zk, zs, .nil, none, 0, rfl, sl_nil _ _ _ _, leaf_good hzz _⟩, ((hc9.setn (by omega) _).setn (by omega) _).setn (by omega) _, gr_setn (gr_setn (gr_setn G9 (Nat.le_refl _) _) (Nat.le_refl _) _) (Nat.le_refl _) _⟩
theorem dDraw (B g : Nat) : ∀ (D : Nat), D ≤ 5 → ∀ w, Cur B w g → Calls Try.prog 71 #[.pointer (some ⟨g, 0, none⟩), .int .i64 D] w fun e w' => RetDraw D w e w' ∧ Cur B w' g ∧ w.grownBy w' (some g)
  | 0, _, w, hc => dDraw_zero B g w hc
  | D + 1, h, w, hc => dDraw_step D (by omega) B g w hc (dDraw B g D (by omega))

end Go.Proofs.Ytnoekbgmhnhneaa
