import Derived.Test.YtemlnpncljomgaaGreatDoorParI
import Derived.Lib.SlBytesConst
namespace Go.Proofs.YtemlnpncljomgaaGreatDoor
open Go.RowKit

set_option maxRecDepth 20000 in
set_option maxHeartbeats 8000000 in
theorem iItem (F : Nat → Option (Tr × Nat)) (s : ByteArray) (d : Int) (g i : Nat) (w : World) (hF : Fwd s F) (hs : s.size ≤ 1048576) (hi : i < s.size) (hB : Blk w g 97 #[.string s, .int .i64 i, .int .i64 d, .bool false])
    (ih : ∀ (w : World) (i : Nat), i ≤ s.size → Blk w g 97 #[.string s, .int .i64 i, .int .i64 d, .bool false] → Calls Tryz.prog 85 #[.pointer (some ⟨g, 0, none⟩)] w fun e w' => RetP (RI s d g) s.size (F i) g w e w') :
    Calls Tryz.prog 113 #[.pointer (some ⟨g, 0, none⟩)] w fun e w' => RetP (RI s d g) s.size (itemP F s i) g w e w' := by
  have AT := Lib.hid fun (w : World) (hB : Blk w g 97 #[.string s, .int .i64 i, .int .i64 d, .bool false]) => iAtom F s d g i w hF hs hi hB ih
  clear ih
  have hgl := hB.lt
  have hgr : g ≠ w.heap.size := by omega
  have hwr := Nat.le_refl w.heap.size
  go_enter Tryz.func113, Tryz.ntmps113
  go_wp2_with fail
  refine (AT.out _ (hB.alloc _)).mono ?_; rintro e w1 ⟨k, t, kids, A, kc, q, bb, rfl, hS1, R1, hg1, hq, hX⟩
  replace R1 : Blk w1 g 97 #[.string s, .int .i64 q, .int .i64 d, .bool bb] := R1
  have Z1 := (Blk.new w 82 #[.int .i64 0, .string ⟨#[]⟩, .slice none 0 0]).grown hg1 (by simp; omega)
  have G1 := gr_trans (gr_alloc (gr_refl w (some g)) _) hg1
  have s1 := hg1.size
  rw [alloc_size] at s1 hS1
  have HX := Lib.hid hX
  clear hX hg1 AT
  go_upto_region 2 with fail
  have N2 := Blk.new w1 82 #[.int .i64 k, .string t, .slice A kids.len kc]
  have R2 := R1.alloc (.cells #[.int .i64 k, .string t, .slice A kids.len kc] 82)
  have Z2 := Z1.alloc (.cells #[.int .i64 k, .string t, .slice A kids.len kc] 82)
  have G2 := gr_alloc G1 (.cells #[.int .i64 k, .string t, .slice A kids.len kc] 82)
  have hS2 := hS1.keep (w' := w1.alloc (.cells #[.int .i64 k, .string t, .slice A kids.len kc] 82)) (fun p _ h2 => alB _ _ h2) (Nat.le_refl _) (Nat.le_refl _)
  have s2 := Nat.le_of_eq (alloc_size w1 (.cells #[.int .i64 k, .string t, .slice A kids.len kc] 82)).symm
  generalize w1.alloc (.cells #[.int .i64 k, .string t, .slice A kids.len kc] 82) = w2 at N2 R2 Z2 G2 hS2 s2 ⊢
  generalize w1.heap.size = nb at *
  clear R1 Z1 G1 hS1
  have kc2 := Lib.run_convert_bytes_const (P := Tryz.prog) w2 60 5 #[.int .u8 42, .int .u8 43, .int .u8 63] 3 3 Tryz.underlying60 Tryz.underlying5
  simp only [show (#[.int .u8 42, .int .u8 43, .int .u8 63] : Array Value).size = 3 from rfl, Nat.reduceAdd] at kc2
  go_upto_region 3 with fail
  clear kc2
  have U3 : ∀ j, (w2.alloc (.cells #[.int .u8 42, .int .u8 43, .int .u8 63] 5 (3, 4))).cell? ⟨w2.heap.size, j, none⟩ = (#[.int .u8 42, .int .u8 43, .int .u8 63] : Array Value)[j]? := World.cell?_alloc_mark w2 #[.int .u8 42, .int .u8 43, .int .u8 63] 5 (3, 4)
  have N3 := N2.alloc (.cells #[.int .u8 42, .int .u8 43, .int .u8 63] 5 (3, 4))
  have R3 := R2.alloc (.cells #[.int .u8 42, .int .u8 43, .int .u8 63] 5 (3, 4))
  have Z3 := Z2.alloc (.cells #[.int .u8 42, .int .u8 43, .int .u8 63] 5 (3, 4))
  have G3 := gr_alloc G2 (.cells #[.int .u8 42, .int .u8 43, .int .u8 63] 5 (3, 4))
  have hS3 := hS2.keep (w' := w2.alloc (.cells #[.int .u8 42, .int .u8 43, .int .u8 63] 5 (3, 4))) (fun p _ h2 => alB _ _ (by omega)) (Nat.le_refl _) (Nat.le_refl _)
  have s3 := Nat.le_of_eq (alloc_size w2 (.cells #[.int .u8 42, .int .u8 43, .int .u8 63] 5 (3, 4))).symm
  generalize w2.alloc (.cells #[.int .u8 42, .int .u8 43, .int .u8 63] 5 (3, 4)) = w3 at U3 N3 R3 Z3 G3 hS3 s3 ⊢
  generalize w2.heap.size = ub at *
  clear R2 Z2 G2 hS2 N2
  go_loopw [4, 5, 11] (fun _ _ iv wr => ∃ m : Nat, m ≤ 3 ∧ iv = .int .i64 m ∧ (0 < m → bA s q ≠ 42) ∧ (1 < m → bA s q ≠ 43) ∧ (2 < m → bA s q ≠ 63) ∧ Blk wr g 97 #[.string s, .int .i64 q, .int .i64 d, .bool bb] ∧ w3.grownBy wr (some g)) (fun _ _ iv _ => 3 - (intOf iv).toNat)
  case atStart => exact ⟨0, by omega, rfl, fun h => absurd h (by omega), fun h => absurd h (by omega), fun h => absurd h (by omega), R3, gr_refl _ _⟩
  case round =>
    obtain ⟨m, hm, rfl, h1, h2, h3, Rr, hgw⟩ := hrel
    have Zr := Z3.grown hgw (by simp; omega)
    have Nr := N3.grown hgw (by simp; omega)
    have hSr := hS3.grew hgw (fun k e => by cases e; omega) (by omega)
    have Gr := gr_trans G3 hgw
    have sr := hgw.size
    have Ur : ∀ j, wr.cell? ⟨ub, j, none⟩ = (#[.int .u8 42, .int .u8 43, .int .u8 63] : Array Value)[j]? := fun j => (World.cell?_of_block (hgw.block ub (by omega) (by simp; omega))).trans (U3 j)
    rcases (show m = 0 ∨ m = 1 ∨ m = 2 ∨ m = 3 by omega) with rfl | rfl | rfl | rfl
    · by_cases hcq : bA s q = 42
      · have n41 : (nx (bA s q) == 42) = true := by rw [hcq]; rfl
        have HR := Lib.hid (show repK (bA s q) = 6 by rw [hcq]; rfl)
        have hqs := bA_lt (s := s) (i := q) (by omega)
        clear hcq
        generalize hnx : nx (bA s q) = y at n41
        have NX := Lib.hid hnx
        clear hnx
        obtain ⟨q1, hq1⟩ : ∃ q1 : Nat, q + 1 = q1 := ⟨_, rfl⟩
        have ew : IntKind.i64.wrap ((q : Int) + 1) = (q1 : Int) := by rw [IntWalk.i64_in _ (by omega)]; omega
        have hq1s : q1 ≤ s.size := by omega
        have HQ1 := Lib.hid hq1
        clear hq1
        go_wp2_with fail
        refine (iNext s d g q bb _ hs Rr).mono ?_; rintro e w5 ⟨rfl, R5, hg5⟩
        rw [NX.out]
        have Z5 := Zr.grown hg5 (by simp; omega)
        have N5 := Nr.grown hg5 (by simp; omega)
        have hS5 := hSr.grew hg5 (fun k e => by cases e; omega) (by omega)
        have G5 := gr_trans Gr hg5
        have s5 := hg5.size
        have p5 := R5.cell
        have f5 := R5.frozen
        go_upto_region 7 with fail
        have R6 := R5.set_ 1 (.int .i64 (q1 : Int))
        simp only [List.setIfInBounds_toArray, List.set_cons_succ, List.set_cons_zero] at R6
        have Z6 := Z5.farb (b := g) (j := 1) (by omega) (.int .i64 (q1 : Int))
        have N6 := N5.farb (b := g) (j := 1) (by omega) (.int .i64 (q1 : Int))
        have G6 := gr_own (j := 1) G5 (.int .i64 (q1 : Int))
        have hS6 := hS5.setb (b := g) (j := 1) (.inl (by omega)) (.int .i64 (q1 : Int))
        have s6 : w5.heap.size ≤ (w5.setCell ⟨g, 1, none⟩ (.int .i64 (q1 : Int))).heap.size := by simp
        generalize w5.setCell ⟨g, 1, none⟩ (.int .i64 (q1 : Int)) = w6 at R6 Z6 N6 G6 hS6 s6 ⊢
        clear R5 Z5 N5 G5 hS5 p5 f5 Zr Nr hSr Ur U3 R3 Z3 N3 Rr
        have z6 := Z6.cell
        have zf6 := Z6.frozen
        have n6 := N6.cell
        have hz6 := Z6.lt
        go_wp2_with fail
        have hw : (((w6.setCell ⟨w.heap.size, 0, none⟩ (.int .i64 6)).setCell ⟨w.heap.size, 1, none⟩ (.string ⟨#[]⟩)).setCell ⟨w.heap.size, 2, none⟩ (.slice (some ⟨w6.heap.size, 0, none⟩) 1 1)).heap.size = w6.heap.size := by simp
        have NN := Blk.new (((w6.setCell ⟨w.heap.size, 0, none⟩ (.int .i64 6)).setCell ⟨w.heap.size, 1, none⟩ (.string ⟨#[]⟩)).setCell ⟨w.heap.size, 2, none⟩ (.slice (some ⟨w6.heap.size, 0, none⟩) 1 1)) 82 #[.int .i64 k, .string t, .slice A kids.len kc]
        rw [hw] at NN
        have hSF := (((hS6.setb (b := w.heap.size) (j := 0) (.inl (by omega)) (.int .i64 6)).setb (b := w.heap.size) (j := 1) (.inl (by omega)) (.string ⟨#[]⟩)).setb (b := w.heap.size) (j := 2) (.inl (by omega)) (.slice (some ⟨w6.heap.size, 0, none⟩) 1 1)).keep (w' := (((w6.setCell ⟨w.heap.size, 0, none⟩ (.int .i64 6)).setCell ⟨w.heap.size, 1, none⟩ (.string ⟨#[]⟩)).setCell ⟨w.heap.size, 2, none⟩ (.slice (some ⟨w6.heap.size, 0, none⟩) 1 1)).alloc (.cells #[.int .i64 k, .string t, .slice A kids.len kc] 82)) (fun p _ h2 => alB _ _ (by rw [hw]; omega)) (Nat.le_refl _) (Nat.le_refl _)
        have hsz : w6.heap.size + 1 ≤ ((((w6.setCell ⟨w.heap.size, 0, none⟩ (.int .i64 6)).setCell ⟨w.heap.size, 1, none⟩ (.string ⟨#[]⟩)).setCell ⟨w.heap.size, 2, none⟩ (.slice (some ⟨w6.heap.size, 0, none⟩) 1 1)).alloc (.cells #[.int .i64 k, .string t, .slice A kids.len kc] 82)).heap.size := by rw [alloc_size, hw]; exact Nat.le_refl _
        have hSN := dj_one NN hSF (.inr (by omega)) (show w.heap.size ≤ w6.heap.size by omega) hsz (by omega) (by omega)
        exact bodyPost_ret (res_cell1 rfl _ _ _ _ _ _ rfl ((((Z6.set_ 0 _).set_ 1 _).set_ 2 _).alloc _) Tryz.underlying82 (by kernel_rfl)) rfl ⟨6, ⟨#[]⟩, .cons (k, t) kids .nil, some ⟨w6.heap.size, 0, none⟩, 1, q1, bb, rfl, hSN, (((R6.farb hgr _).farb hgr _).farb hgr _).alloc _, gr_alloc (gr_setm (gr_setm (gr_setm G6 hwr _) hwr _) hwr _) _, hq1s, by cases bb; exact (item_rep HX.out HR.out (by decide)).trans (by rw [HQ1.out]; rfl); exact item_none HX.out⟩
      · have n41 : (nx (bA s q) == 42) = false := by unfold nx; split <;> simp <;> omega
        generalize hnx : nx (bA s q) = y at n41
        have NX := Lib.hid hnx
        clear hnx
        go_wp2_with fail
        refine (iNext s d g q bb _ hs Rr).mono ?_; rintro e w5 ⟨rfl, R5, hg5⟩
        rw [NX.out]
        go_wp2_with fail
        go_roundw
        case rel => exact ⟨1, by omega, by go_num, fun _ => by exact hcq, fun h => by omega, fun h => by omega, R5, gr_trans hgw hg5⟩
        case measure => simp [intOf]
    · by_cases hcq : bA s q = 43
      · have n41 : (nx (bA s q) == 43) = true := by rw [hcq]; rfl
        have HR := Lib.hid (show repK (bA s q) = 7 by rw [hcq]; rfl)
        have hqs := bA_lt (s := s) (i := q) (by omega)
        clear hcq
        generalize hnx : nx (bA s q) = y at n41
        have NX := Lib.hid hnx
        clear hnx
        obtain ⟨q1, hq1⟩ : ∃ q1 : Nat, q + 1 = q1 := ⟨_, rfl⟩
        have ew : IntKind.i64.wrap ((q : Int) + 1) = (q1 : Int) := by rw [IntWalk.i64_in _ (by omega)]; omega
        have hq1s : q1 ≤ s.size := by omega
        have HQ1 := Lib.hid hq1
        clear hq1
        go_wp2_with fail
        refine (iNext s d g q bb _ hs Rr).mono ?_; rintro e w5 ⟨rfl, R5, hg5⟩
        rw [NX.out]
        have Z5 := Zr.grown hg5 (by simp; omega)
        have N5 := Nr.grown hg5 (by simp; omega)
        have hS5 := hSr.grew hg5 (fun k e => by cases e; omega) (by omega)
        have G5 := gr_trans Gr hg5
        have s5 := hg5.size
        have p5 := R5.cell
        have f5 := R5.frozen
        go_upto_region 7 with fail
        have R6 := R5.set_ 1 (.int .i64 (q1 : Int))
        simp only [List.setIfInBounds_toArray, List.set_cons_succ, List.set_cons_zero] at R6
        have Z6 := Z5.farb (b := g) (j := 1) (by omega) (.int .i64 (q1 : Int))
        have N6 := N5.farb (b := g) (j := 1) (by omega) (.int .i64 (q1 : Int))
        have G6 := gr_own (j := 1) G5 (.int .i64 (q1 : Int))
        have hS6 := hS5.setb (b := g) (j := 1) (.inl (by omega)) (.int .i64 (q1 : Int))
        have s6 : w5.heap.size ≤ (w5.setCell ⟨g, 1, none⟩ (.int .i64 (q1 : Int))).heap.size := by simp
        generalize w5.setCell ⟨g, 1, none⟩ (.int .i64 (q1 : Int)) = w6 at R6 Z6 N6 G6 hS6 s6 ⊢
        clear R5 Z5 N5 G5 hS5 p5 f5 Zr Nr hSr Ur U3 R3 Z3 N3 Rr
        have z6 := Z6.cell
        have zf6 := Z6.frozen
        have n6 := N6.cell
        have hz6 := Z6.lt
        go_wp2_with fail
        have hw : (((w6.setCell ⟨w.heap.size, 0, none⟩ (.int .i64 7)).setCell ⟨w.heap.size, 1, none⟩ (.string ⟨#[]⟩)).setCell ⟨w.heap.size, 2, none⟩ (.slice (some ⟨w6.heap.size, 0, none⟩) 1 1)).heap.size = w6.heap.size := by simp
        have NN := Blk.new (((w6.setCell ⟨w.heap.size, 0, none⟩ (.int .i64 7)).setCell ⟨w.heap.size, 1, none⟩ (.string ⟨#[]⟩)).setCell ⟨w.heap.size, 2, none⟩ (.slice (some ⟨w6.heap.size, 0, none⟩) 1 1)) 82 #[.int .i64 k, .string t, .slice A kids.len kc]
        rw [hw] at NN
        have hSF := (((hS6.setb (b := w.heap.size) (j := 0) (.inl (by omega)) (.int .i64 7)).setb (b := w.heap.size) (j := 1) (.inl (by omega)) (.string ⟨#[]⟩)).setb (b := w.heap.size) (j := 2) (.inl (by omega)) (.slice (some ⟨w6.heap.size, 0, none⟩) 1 1)).keep (w' := (((w6.setCell ⟨w.heap.size, 0, none⟩ (.int .i64 7)).setCell ⟨w.heap.size, 1, none⟩ (.string ⟨#[]⟩)).setCell ⟨w.heap.size, 2, none⟩ (.slice (some ⟨w6.heap.size, 0, none⟩) 1 1)).alloc (.cells #[.int .i64 k, .string t, .slice A kids.len kc] 82)) (fun p _ h2 => alB _ _ (by rw [hw]; omega)) (Nat.le_refl _) (Nat.le_refl _)
        have hsz : w6.heap.size + 1 ≤ ((((w6.setCell ⟨w.heap.size, 0, none⟩ (.int .i64 7)).setCell ⟨w.heap.size, 1, none⟩ (.string ⟨#[]⟩)).setCell ⟨w.heap.size, 2, none⟩ (.slice (some ⟨w6.heap.size, 0, none⟩) 1 1)).alloc (.cells #[.int .i64 k, .string t, .slice A kids.len kc] 82)).heap.size := by rw [alloc_size, hw]; exact Nat.le_refl _
        have hSN := dj_one NN hSF (.inr (by omega)) (show w.heap.size ≤ w6.heap.size by omega) hsz (by omega) (by omega)
        exact bodyPost_ret (res_cell1 rfl _ _ _ _ _ _ rfl ((((Z6.set_ 0 _).set_ 1 _).set_ 2 _).alloc _) Tryz.underlying82 (by kernel_rfl)) rfl ⟨7, ⟨#[]⟩, .cons (k, t) kids .nil, some ⟨w6.heap.size, 0, none⟩, 1, q1, bb, rfl, hSN, (((R6.farb hgr _).farb hgr _).farb hgr _).alloc _, gr_alloc (gr_setm (gr_setm (gr_setm G6 hwr _) hwr _) hwr _) _, hq1s, by cases bb; exact (item_rep HX.out HR.out (by decide)).trans (by rw [HQ1.out]; rfl); exact item_none HX.out⟩
      · have n41 : (nx (bA s q) == 43) = false := by unfold nx; split <;> simp <;> omega
        generalize hnx : nx (bA s q) = y at n41
        have NX := Lib.hid hnx
        clear hnx
        go_wp2_with fail
        refine (iNext s d g q bb _ hs Rr).mono ?_; rintro e w5 ⟨rfl, R5, hg5⟩
        rw [NX.out]
        go_wp2_with fail
        go_roundw
        case rel => exact ⟨2, by omega, by go_num, fun _ => by exact h1 (by omega), fun h => by exact hcq, fun h => by omega, R5, gr_trans hgw hg5⟩
        case measure => simp [intOf]
    · by_cases hcq : bA s q = 63
      · have n41 : (nx (bA s q) == 63) = true := by rw [hcq]; rfl
        have HR := Lib.hid (show repK (bA s q) = 8 by rw [hcq]; rfl)
        have hqs := bA_lt (s := s) (i := q) (by omega)
        clear hcq
        generalize hnx : nx (bA s q) = y at n41
        have NX := Lib.hid hnx
        clear hnx
        obtain ⟨q1, hq1⟩ : ∃ q1 : Nat, q + 1 = q1 := ⟨_, rfl⟩
        have ew : IntKind.i64.wrap ((q : Int) + 1) = (q1 : Int) := by rw [IntWalk.i64_in _ (by omega)]; omega
        have hq1s : q1 ≤ s.size := by omega
        have HQ1 := Lib.hid hq1
        clear hq1
        go_wp2_with fail
        refine (iNext s d g q bb _ hs Rr).mono ?_; rintro e w5 ⟨rfl, R5, hg5⟩
        rw [NX.out]
        have Z5 := Zr.grown hg5 (by simp; omega)
        have N5 := Nr.grown hg5 (by simp; omega)
        have hS5 := hSr.grew hg5 (fun k e => by cases e; omega) (by omega)
        have G5 := gr_trans Gr hg5
        have s5 := hg5.size
        have p5 := R5.cell
        have f5 := R5.frozen
        go_upto_region 7 with fail
        have R6 := R5.set_ 1 (.int .i64 (q1 : Int))
        simp only [List.setIfInBounds_toArray, List.set_cons_succ, List.set_cons_zero] at R6
        have Z6 := Z5.farb (b := g) (j := 1) (by omega) (.int .i64 (q1 : Int))
        have N6 := N5.farb (b := g) (j := 1) (by omega) (.int .i64 (q1 : Int))
        have G6 := gr_own (j := 1) G5 (.int .i64 (q1 : Int))
        have hS6 := hS5.setb (b := g) (j := 1) (.inl (by omega)) (.int .i64 (q1 : Int))
        have s6 : w5.heap.size ≤ (w5.setCell ⟨g, 1, none⟩ (.int .i64 (q1 : Int))).heap.size := by simp
        generalize w5.setCell ⟨g, 1, none⟩ (.int .i64 (q1 : Int)) = w6 at R6 Z6 N6 G6 hS6 s6 ⊢
        clear R5 Z5 N5 G5 hS5 p5 f5 Zr Nr hSr Ur U3 R3 Z3 N3 Rr
        have z6 := Z6.cell
        have zf6 := Z6.frozen
        have n6 := N6.cell
        have hz6 := Z6.lt
        go_wp2_with fail
        have hw : (((w6.setCell ⟨w.heap.size, 0, none⟩ (.int .i64 8)).setCell ⟨w.heap.size, 1, none⟩ (.string ⟨#[]⟩)).setCell ⟨w.heap.size, 2, none⟩ (.slice (some ⟨w6.heap.size, 0, none⟩) 1 1)).heap.size = w6.heap.size := by simp
        have NN := Blk.new (((w6.setCell ⟨w.heap.size, 0, none⟩ (.int .i64 8)).setCell ⟨w.heap.size, 1, none⟩ (.string ⟨#[]⟩)).setCell ⟨w.heap.size, 2, none⟩ (.slice (some ⟨w6.heap.size, 0, none⟩) 1 1)) 82 #[.int .i64 k, .string t, .slice A kids.len kc]
        rw [hw] at NN
        have hSF := (((hS6.setb (b := w.heap.size) (j := 0) (.inl (by omega)) (.int .i64 8)).setb (b := w.heap.size) (j := 1) (.inl (by omega)) (.string ⟨#[]⟩)).setb (b := w.heap.size) (j := 2) (.inl (by omega)) (.slice (some ⟨w6.heap.size, 0, none⟩) 1 1)).keep (w' := (((w6.setCell ⟨w.heap.size, 0, none⟩ (.int .i64 8)).setCell ⟨w.heap.size, 1, none⟩ (.string ⟨#[]⟩)).setCell ⟨w.heap.size, 2, none⟩ (.slice (some ⟨w6.heap.size, 0, none⟩) 1 1)).alloc (.cells #[.int .i64 k, .string t, .slice A kids.len kc] 82)) (fun p _ h2 => alB _ _ (by rw [hw]; omega)) (Nat.le_refl _) (Nat.le_refl _)
        have hsz : w6.heap.size + 1 ≤ ((((w6.setCell ⟨w.heap.size, 0, none⟩ (.int .i64 8)).setCell ⟨w.heap.size, 1, none⟩ (.string ⟨#[]⟩)).setCell ⟨w.heap.size, 2, none⟩ (.slice (some ⟨w6.heap.size, 0, none⟩) 1 1)).alloc (.cells #[.int .i64 k, .string t, .slice A kids.len kc] 82)).heap.size := by rw [alloc_size, hw]; exact Nat.le_refl _
        have hSN := dj_one NN hSF (.inr (by omega)) (show w.heap.size ≤ w6.heap.size by omega) hsz (by omega) (by omega)
        exact bodyPost_ret (res_cell1 rfl _ _ _ _ _ _ rfl ((((Z6.set_ 0 _).set_ 1 _).set_ 2 _).alloc _) Tryz.underlying82 (by kernel_rfl)) rfl ⟨8, ⟨#[]⟩, .cons (k, t) kids .nil, some ⟨w6.heap.size, 0, none⟩, 1, q1, bb, rfl, hSN, (((R6.farb hgr _).farb hgr _).farb hgr _).alloc _, gr_alloc (gr_setm (gr_setm (gr_setm G6 hwr _) hwr _) hwr _) _, hq1s, by cases bb; exact (item_rep HX.out HR.out (by decide)).trans (by rw [HQ1.out]; rfl); exact item_none HX.out⟩
      · have n41 : (nx (bA s q) == 63) = false := by unfold nx; split <;> simp <;> omega
        generalize hnx : nx (bA s q) = y at n41
        have NX := Lib.hid hnx
        clear hnx
        go_wp2_with fail
        refine (iNext s d g q bb _ hs Rr).mono ?_; rintro e w5 ⟨rfl, R5, hg5⟩
        rw [NX.out]
        go_wp2_with fail
        go_roundw
        case rel => exact ⟨3, by omega, by go_num, fun _ => by exact h1 (by omega), fun h => by exact h2 (by omega), fun h => by exact hcq, R5, gr_trans hgw hg5⟩
        case measure => simp [intOf]
    · have HR := Lib.hid (show repK (bA s q) = 0 by unfold repK; rw [if_neg (h1 (by omega)), if_neg (h2 (by omega)), if_neg (h3 (by omega))])
      have zr := Zr.cell
      have zfr := Zr.frozen
      have nr := Nr.cell
      have hzr := Zr.lt
      go_wp2_with fail
      exact bodyPost_ret (res_cell1 rfl _ _ _ _ _ _ rfl (((Zr.set_ 0 _).set_ 1 _).set_ 2 _) Tryz.underlying82 (by kernel_rfl)) rfl ⟨k, t, kids, A, kc, q, bb, rfl, (((hSr.setb (.inl (by omega)) _).setb (.inl (by omega)) _).setb (.inl (by omega)) _).more (by omega) (by simp; omega), ((Rr.farb hgr _).farb hgr _).farb hgr _, gr_setm (gr_setm (gr_setm Gr hwr _) hwr _) hwr _, hq, by cases bb; exact item_plain HX.out HR.out; exact item_none HX.out⟩

end Go.Proofs.YtemlnpncljomgaaGreatDoor
