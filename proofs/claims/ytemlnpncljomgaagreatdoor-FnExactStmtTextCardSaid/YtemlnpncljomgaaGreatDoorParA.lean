import Derived.Test.YtemlnpncljomgaaGreatDoorParK
namespace Go.Proofs.YtemlnpncljomgaaGreatDoor
open Go.RowKit

set_option maxRecDepth 20000 in
set_option maxHeartbeats 1000000 in
theorem iCatBad (s : ByteArray) (d : Int) (g i : Nat) (w : World) (hi : i ≤ s.size) (hB : Blk w g 97 #[.string s, .int .i64 i, .int .i64 d, .bool true]) :
    Calls Tryz.prog 99 #[.pointer (some ⟨g, 0, none⟩)] w fun e w' => RetP (RI s d g) s.size none g w e w' := by
  have hgl := hB.lt
  have hgr : g ≠ w.heap.size := by omega
  have hwr := Nat.le_refl w.heap.size
  go_enter Tryz.func99, Tryz.ntmps99
  go_wp2_with fail
  go_loopw [3] (fun lv wr => lv = .slice none 0 0 ∧ Blk wr g 97 #[.string s, .int .i64 i, .int .i64 d, .bool true] ∧ Blk wr w.heap.size 82 #[.int .i64 0, .string ⟨#[]⟩, .slice none 0 0] ∧ w.grownBy wr (some g)) (fun _ _ => 0)
  case atStart => exact ⟨rfl, hB.alloc _, Blk.new w 82 #[.int .i64 0, .string ⟨#[]⟩, .slice none 0 0], gr_alloc (gr_refl w (some g)) _⟩
  case round =>
    obtain ⟨rfl, Rr, Zr, Gr⟩ := hrel
    have hq := hi
    have hrw := Zr.lt
    have z0 := Zr.cell
    have zf0 := Zr.frozen
    have r0 := Rr.cell
    have rf0 := Rr.frozen
    go_wp2_with fail
    have R9 := Rr.set_ 3 (.bool true)
    simp only [List.setIfInBounds_toArray, List.set_cons_succ, List.set_cons_zero] at R9
    have Z9 := Zr.farb (b := g) (j := 3) (by omega) (.bool true)
    have G9 := gr_own (j := 3) Gr (.bool true)
    exact bodyPost_ret (res_cell1 rfl _ _ _ _ _ _ rfl (((Z9.set_ 0 _).set_ 1 _).set_ 2 _) Tryz.underlying82 (by kernel_rfl)) rfl ⟨0, ⟨#[]⟩, .nil, none, 0, i, true, rfl, djNil _ _ _ _, ((R9.farb hgr _).farb hgr _).farb hgr _, gr_setm (gr_setm (gr_setm G9 hwr _) hwr _) hwr _, hq, rfl⟩

set_option maxRecDepth 20000 in
set_option maxHeartbeats 8000000 in
theorem iAltS (F : Nat → Option (Tr × Nat)) (s : ByteArray) (d d1 : Int) (g i : Nat) (w : World) (hF : Fwd s F) (hs : s.size ≤ 1048576) (hd : d + 1 = d1) (hd0 : 0 ≤ d) (hd1 : d1 ≤ 40) (hi : i ≤ s.size) (hB : Blk w g 97 #[.string s, .int .i64 i, .int .i64 d, .bool false])
    (ih : ∀ (w : World) (i : Nat), i ≤ s.size → Blk w g 97 #[.string s, .int .i64 i, .int .i64 d1, .bool false] → Calls Tryz.prog 85 #[.pointer (some ⟨g, 0, none⟩)] w fun e w' => RetP (RI s d1 g) s.size (F i) g w e w') :
    Calls Tryz.prog 85 #[.pointer (some ⟨g, 0, none⟩)] w fun e w' => RetP (RI s d g) s.size (altF true F s i) g w e w' := by
  have CT := Lib.hid fun (w : World) (i : Nat) (hi : i ≤ s.size) (hB : Blk w g 97 #[.string s, .int .i64 i, .int .i64 d1, .bool false]) => iCat F s d1 g i w hF hs hi hB ih
  clear ih
  obtain ⟨j0, hj, hy0, hy1, hy2⟩ := info_parts info_Rex
  have hgl := hB.lt
  have hgr : g ≠ w.heap.size := by omega
  have hwr := Nat.le_refl w.heap.size
  have ed : IntKind.i64.wrap (d + 1) = d1 := by rw [IntWalk.i64_in _ (by omega)]; exact hd
  have ed2 : IntKind.i64.wrap (d1 - 1) = d := by rw [IntWalk.i64_in _ (by omega)]; omega
  clear hd
  generalize hCF : altF true F s i = CF
  have HCF := Lib.hid hCF.symm
  clear hCF
  have c0 := hB.cell
  have f0 := hB.frozen
  go_enter Tryz.func85, Tryz.ntmps85
  go_upto_region 4 with fail
  have R0 := (hB.set_ 2 (.int .i64 d1)).alloc (.cells #[.int .i64 0, .string ⟨#[]⟩, .slice none 0 0] 82)
  simp only [List.setIfInBounds_toArray, List.set_cons_succ, List.set_cons_zero] at R0
  have Z0 : Blk ((w.setCell ⟨g, 2, none⟩ (.int .i64 d1)).alloc (.cells #[.int .i64 0, .string ⟨#[]⟩, .slice none 0 0] 82)) w.heap.size 82 #[.int .i64 0, .string ⟨#[]⟩, .slice none 0 0] := by have := Blk.new (w.setCell ⟨g, 2, none⟩ (.int .i64 d1)) 82 #[.int .i64 0, .string ⟨#[]⟩, .slice none 0 0]; rwa [show (w.setCell ⟨g, 2, none⟩ (.int .i64 d1)).heap.size = w.heap.size by simp] at this
  have G0 := gr_alloc (gr_own (j := 2) (gr_refl w (some g)) (.int .i64 d1)) (.cells #[.int .i64 0, .string ⟨#[]⟩, .slice none 0 0] 82)
  generalize (w.setCell ⟨g, 2, none⟩ (.int .i64 d1)).alloc (.cells #[.int .i64 0, .string ⟨#[]⟩, .slice none 0 0] 82) = w0 at R0 Z0 G0 ⊢
  have hz0 := Z0.lt
  have s0 := G0.size
  clear c0 f0
  go_wp2_with fail
  refine (CT.out _ i hi R0).mono ?_; rintro e w1 ⟨k, t, kids, Ay, cy, q, bb, rfl, hS1, R1, hg1, hq, hX1⟩
  replace R1 : Blk w1 g 97 #[.string s, .int .i64 q, .int .i64 d1, .bool bb] := R1
  have Z1 := Z0.grown hg1 (by simp; omega)
  have G1 := gr_trans G0 hg1
  have s1 := hg1.size
  have HX := Lib.hid hX1
  clear hX1 R0 Z0 G0 hg1
  go_wp2_with fail
  go_loopw [3] (fun lv wr => ∃ (L : List Tr) (A : Option Addr) (n c q : Nat) (b : Bool), lv = .slice A n c ∧ Acc wr (w.heap.size + 1) wr.heap.size A n c L ∧ Blk wr g 97 #[.string s, .int .i64 q, .int .i64 d1, .bool b] ∧ Blk wr w.heap.size 82 #[.int .i64 0, .string ⟨#[]⟩, .slice none 0 0] ∧ w.grownBy wr (some g) ∧ q ≤ s.size ∧ 1 ≤ n ∧ (b = false → n ≤ q ∧ CF = finP 5 (catsP s (catP true F s) (s.size - q) L q)) ∧ (b = true → CF = none)) (fun lv _ => s.size + 1 - lenV lv)
  case atStart =>
    refine ⟨[((k, t), kids)], _, 1, 1, q, bb, rfl, Acc.lit hS1 (by omega) (by omega), R1.alloc _, Z1.alloc _, gr_alloc G1 _, hq, Nat.le_refl _, fun h => ?_, fun h => ?_⟩
    · subst h
      have hX := HX.out
      have hf := catP_fwd hs hF i _ q hi hX
      exact ⟨by omega, HCF.out.trans (by unfold altF; rw [hX]; rfl)⟩
    · subst h
      exact HCF.out.trans (by unfold altF; rw [HX.out]; rfl)
  case round =>
    clear HX hS1 R1 Z1 G1
    obtain ⟨L, A, n, c, q, b, rfl, hA, Rr, Zr, Gr, hq, hn1, hb0, hb1⟩ := hrel
    have p0 := Rr.cell
    have hsr := Gr.size
    have hrw := Zr.lt
    cases b
    case true =>
      have HE := Lib.hid (show CF = cond true none (finP 5 (some (L, q))) from hb1 rfl)
      clear hb0 hb1
      go_upto_region 8 with fail
      rcases (show n = 1 ∨ 2 ≤ n by omega) with rfl | h2
      · obtain ⟨k, t, kids, ab, A', c', rfl, rfl, h3, h4, a0, a1, a2, hS⟩ := hA.one
        have z8 := Zr.cell
        have zf8 := Zr.frozen
        have r8 := Rr.cell
        have rf8 := Rr.frozen
        have hw8 := Zr.lt
        clear hA
        skip
        go_wp2_with fail
        have R9 := Rr.set_ 2 (.int .i64 d)
        simp only [List.setIfInBounds_toArray, List.set_cons_succ, List.set_cons_zero] at R9
        have Z9 := Zr.farb (b := g) (j := 2) (by omega) (.int .i64 d)
        have G9 := gr_own (j := 2) Gr (.int .i64 d)
        exact bodyPost_ret (res_cell1 rfl _ _ _ _ _ _ rfl (((Z9.set_ 0 _).set_ 1 _).set_ 2 _) Tryz.underlying82 (by kernel_rfl)) rfl ⟨k, t, kids, A', c', q, true, rfl, ((((hS.setb (b := g) (j := 2) (.inl (by omega)) _).setb (.inl (by omega)) _).setb (.inl (by omega)) _).setb (.inl (by omega)) _).more (by omega) (by simp), ((R9.farb hgr _).farb hgr _).farb hgr _, gr_setm (gr_setm (gr_setm G9 hwr _) hwr _) hwr _, hq, HE.out⟩
      · obtain ⟨hn9, hS⟩ := hA.done
        have b0 : ((n : Int) == 0) = false := beq_eq_false_iff_ne.2 (by omega)
        have b1 : ((n : Int) == 1) = false := beq_eq_false_iff_ne.2 (by omega)
        have HV := Lib.hid (HE.out.trans (show cond true none (finP 5 (some (L, q))) = cond true none (some (((5, ⟨#[]⟩), mkFr L), q)) from rfl))
        have z8 := Zr.cell
        have zf8 := Zr.frozen
        have r8 := Rr.cell
        have rf8 := Rr.frozen
        have hw8 := Zr.lt
        clear hA
        skip
        go_wp2_with fail
        have R9 := Rr.set_ 2 (.int .i64 d)
        simp only [List.setIfInBounds_toArray, List.set_cons_succ, List.set_cons_zero] at R9
        have Z9 := Zr.farb (b := g) (j := 2) (by omega) (.int .i64 d)
        have G9 := gr_own (j := 2) Gr (.int .i64 d)
        subst hn9
        exact bodyPost_ret (res_cell1 rfl _ _ _ _ _ _ rfl (((Z9.set_ 0 _).set_ 1 _).set_ 2 _) Tryz.underlying82 (by kernel_rfl)) rfl ⟨5, ⟨#[]⟩, mkFr L, A, c, q, true, rfl, ((((hS.setb (b := g) (j := 2) (.inl (by omega)) _).setb (.inl (by omega)) _).setb (.inl (by omega)) _).setb (.inl (by omega)) _).more (by omega) (by simp), ((R9.farb hgr _).farb hgr _).farb hgr _, gr_setm (gr_setm (gr_setm G9 hwr _) hwr _) hwr _, hq, HV.out⟩
    obtain ⟨hnq, hE0⟩ := hb0 rfl
    have HI := Lib.hid hE0
    clear hE0 hb0 hb1
    by_cases h1 : bA s q = 124
    case' neg =>
      have HE := Lib.hid (show CF = cond false none (finP 5 (some (L, q))) from HI.out.trans (by rw [catsP_stop h1]; rfl))
      clear HI
      have n0_ : (nx (bA s q) == 124) = false := by unfold nx; split <;> simp <;> omega
      generalize hnx : nx (bA s q) = y at n0_
      have NX := Lib.hid hnx
      clear hnx
      clear h1
      go_wp2_with fail
      refine (iNext s d1 g q false _ hs Rr).mono ?_; rintro e v0 ⟨rfl, Rv0, hgv0⟩
      rw [NX.out]
      have Zv0 := Zr.grown hgv0 (by simp; omega)
      have Av0 := hA.grown hgv0 (by omega)
      have Gv0 := gr_trans Gr hgv0
      clear Rr Zr hA Gr hgv0
      go_upto_region 8 with fail
      rcases (show n = 1 ∨ 2 ≤ n by omega) with rfl | h2
      · obtain ⟨k, t, kids, ab, A', c', rfl, rfl, h3, h4, a0, a1, a2, hS⟩ := Av0.one
        have z8 := Zv0.cell
        have zf8 := Zv0.frozen
        have r8 := Rv0.cell
        have rf8 := Rv0.frozen
        have hw8 := Zv0.lt
        clear Av0
        skip
        go_wp2_with fail
        have R9 := Rv0.set_ 2 (.int .i64 d)
        simp only [List.setIfInBounds_toArray, List.set_cons_succ, List.set_cons_zero] at R9
        have Z9 := Zv0.farb (b := g) (j := 2) (by omega) (.int .i64 d)
        have G9 := gr_own (j := 2) Gv0 (.int .i64 d)
        exact bodyPost_ret (res_cell1 rfl _ _ _ _ _ _ rfl (((Z9.set_ 0 _).set_ 1 _).set_ 2 _) Tryz.underlying82 (by kernel_rfl)) rfl ⟨k, t, kids, A', c', q, false, rfl, ((((hS.setb (b := g) (j := 2) (.inl (by omega)) _).setb (.inl (by omega)) _).setb (.inl (by omega)) _).setb (.inl (by omega)) _).more (by omega) (by simp), ((R9.farb hgr _).farb hgr _).farb hgr _, gr_setm (gr_setm (gr_setm G9 hwr _) hwr _) hwr _, hq, HE.out⟩
      · obtain ⟨hn9, hS⟩ := Av0.done
        have b0 : ((n : Int) == 0) = false := beq_eq_false_iff_ne.2 (by omega)
        have b1 : ((n : Int) == 1) = false := beq_eq_false_iff_ne.2 (by omega)
        have HV := Lib.hid (HE.out.trans (show cond false none (finP 5 (some (L, q))) = cond false none (some (((5, ⟨#[]⟩), mkFr L), q)) from by rw [fin_some (by rw [Av0.1]; omega), node_more (by rw [Av0.1]; exact h2)]))
        have z8 := Zv0.cell
        have zf8 := Zv0.frozen
        have r8 := Rv0.cell
        have rf8 := Rv0.frozen
        have hw8 := Zv0.lt
        clear Av0
        skip
        go_wp2_with fail
        have R9 := Rv0.set_ 2 (.int .i64 d)
        simp only [List.setIfInBounds_toArray, List.set_cons_succ, List.set_cons_zero] at R9
        have Z9 := Zv0.farb (b := g) (j := 2) (by omega) (.int .i64 d)
        have G9 := gr_own (j := 2) Gv0 (.int .i64 d)
        subst hn9
        exact bodyPost_ret (res_cell1 rfl _ _ _ _ _ _ rfl (((Z9.set_ 0 _).set_ 1 _).set_ 2 _) Tryz.underlying82 (by kernel_rfl)) rfl ⟨5, ⟨#[]⟩, mkFr L, A, c, q, false, rfl, ((((hS.setb (b := g) (j := 2) (.inl (by omega)) _).setb (.inl (by omega)) _).setb (.inl (by omega)) _).setb (.inl (by omega)) _).more (by omega) (by simp), ((R9.farb hgr _).farb hgr _).farb hgr _, gr_setm (gr_setm (gr_setm G9 hwr _) hwr _) hwr _, hq, HV.out⟩
    have hqs : q < s.size := bA_lt (fun h => by omega)
    have HN := Lib.hid (HI.out.trans (congrArg (finP 5) (catsP_step (catP_fwd hs hF) h1)))
    clear HI
    have n0_ : (nx (bA s q) == 124) = true := by rw [h1]; rfl
    generalize hnx : nx (bA s q) = y at n0_
    have NX := Lib.hid hnx
    clear hnx
    clear h1
    obtain ⟨q1, hq1⟩ : ∃ q1 : Nat, q + 1 = q1 := ⟨_, rfl⟩
    have ew : IntKind.i64.wrap ((q : Int) + 1) = (q1 : Int) := by rw [IntWalk.i64_in _ (by omega)]; omega
    have hq1s : q1 ≤ s.size := by omega
    have hqq : q < q1 := by omega
    have HQ1 := Lib.hid hq1
    clear hq1
    go_wp2_with fail
    refine (iNext s d1 g q false _ hs Rr).mono ?_; rintro e v0 ⟨rfl, Rv0, hgv0⟩
    rw [NX.out]
    have Zv0 := Zr.grown hgv0 (by simp; omega)
    have Av0 := hA.grown hgv0 (by omega)
    have Gv0 := gr_trans Gr hgv0
    clear Rr Zr hA Gr hgv0
    have p3 := Rv0.cell
    have f3 := Rv0.frozen
    go_upto_region 7 with fail
    have R4 := Rv0.set_ 1 (.int .i64 (q1 : Int))
    simp only [List.setIfInBounds_toArray, List.set_cons_succ, List.set_cons_zero] at R4
    have hg4 := gr_set (p := ⟨g, 1, none⟩) (gr_refl v0 (some g)) (.inl rfl) (.int .i64 (q1 : Int))
    have Z4 := Zv0.grown hg4 (by simp; omega)
    have A4 := Av0.grown hg4 (by omega)
    have G4 := gr_trans Gv0 hg4
    clear Rv0 Zv0 Av0 Gv0 hg4 p3 f3
    generalize v0.setCell ⟨g, 1, none⟩ (.int .i64 (q1 : Int)) = w4 at R4 Z4 A4 G4 ⊢
    have hlt5 := A4.lt
    have hh5 := A4.hi_le
    have s4 := Z4.lt
    go_wp2_with fail
    refine (CT.out _ q1 hq1s R4).mono ?_; rintro e w5 ⟨k, t, kids, Ay, cy, q', bb, rfl, hS5, R5, hg5, hq', hX5⟩
    replace R5 : Blk w5 g 97 #[.string s, .int .i64 q', .int .i64 d1, .bool bb] := R5
    have Z5 := Z4.grown hg5 (by simp; omega)
    have A5 := A4.grown hg5 (by omega)
    have G5 := gr_trans G4 hg5
    have s5 := hg5.size
    have HX := Lib.hid hX5
    clear hX5 R4 Z4 A4 hg5
    go_wp2_with (at_builtin; refine wpList_acc rfl _ _ 80 rfl (w.heap.size + 1) j0 Tryz.underlying80 hj hy0 hy1 hy2 A n c L rfl A5 k t kids Ay cy w4.heap.size rfl (by omega) (by omega) hS5 (by omega) hh5 ?_)
    intro A7 c7 w7 hA7 hg7
    have hk7 : ∀ k, (Value.slice A n c).ownBlock = some k → w.heap.size + 1 ≤ k := fun k hk => (hlt5 k hk).1
    have R7 := R5.grown hg7 (fun e => by have := hk7 _ e.symm; omega)
    have Z7 := Z5.grown hg7 (fun e => by have := hk7 _ e.symm; omega)
    have G7 := gr_push G5 hg7 (fun k e => by have := hk7 k e; omega)
    clear R5 Z5 A5 G5 hS5 hg7
    go_wp2_with fail
    go_roundw
    case rel =>
      refine ⟨L ++ [((k, t), kids)], A7, n + 1, c7, q', bb, rfl, hA7, R7, Z7, G7, hq', by omega, fun h => ?_, fun h => ?_⟩
      · subst h
        have hX := HX.out
        have hf := catP_fwd hs hF q1 _ q' (by omega) hX
        exact ⟨by omega, HN.out.trans (by rw [HQ1.out, hX]; rfl)⟩
      · subst h
        exact HN.out.trans (by rw [HQ1.out, HX.out]; rfl)
    case measure => simp [lenV]; omega

set_option maxRecDepth 20000 in
set_option maxHeartbeats 4000000 in
theorem iAltZ (s : ByteArray) (g i : Nat) (w : World) (hi : i ≤ s.size) (d d1 : Int) (hd : d = 40) (hd1 : d1 = 41) (hB : Blk w g 97 #[.string s, .int .i64 i, .int .i64 d, .bool false]) :
    Calls Tryz.prog 85 #[.pointer (some ⟨g, 0, none⟩)] w fun e w' => RetP (RI s d g) s.size none g w e w' := by
  have hgl := hB.lt
  have hgr : g ≠ w.heap.size := by omega
  have hwr := Nat.le_refl w.heap.size
  have ed : IntKind.i64.wrap (d + 1) = d1 := by subst hd hd1; rfl
  have ed2 : IntKind.i64.wrap (d1 - 1) = d := by subst hd hd1; rfl
  have hgt : 40 < d1 := by omega
  clear hd hd1
  have c0 := hB.cell
  have f0 := hB.frozen
  go_enter Tryz.func85, Tryz.ntmps85
  go_upto_region 4 with fail
  have R0 := ((hB.set_ 2 (.int .i64 d1)).set_ 3 (.bool true)).alloc (.cells #[.int .i64 0, .string ⟨#[]⟩, .slice none 0 0] 82)
  simp only [List.setIfInBounds_toArray, List.set_cons_succ, List.set_cons_zero] at R0
  have Z0 : Blk (((w.setCell ⟨g, 2, none⟩ (.int .i64 d1)).setCell ⟨g, 3, none⟩ (.bool true)).alloc (.cells #[.int .i64 0, .string ⟨#[]⟩, .slice none 0 0] 82)) w.heap.size 82 #[.int .i64 0, .string ⟨#[]⟩, .slice none 0 0] := by have := Blk.new ((w.setCell ⟨g, 2, none⟩ (.int .i64 d1)).setCell ⟨g, 3, none⟩ (.bool true)) 82 #[.int .i64 0, .string ⟨#[]⟩, .slice none 0 0]; rwa [show ((w.setCell ⟨g, 2, none⟩ (.int .i64 d1)).setCell ⟨g, 3, none⟩ (.bool true)).heap.size = w.heap.size by simp] at this
  have G0 := gr_alloc (gr_own (j := 3) (gr_own (j := 2) (gr_refl w (some g)) (.int .i64 d1)) (.bool true)) (.cells #[.int .i64 0, .string ⟨#[]⟩, .slice none 0 0] 82)
  generalize ((w.setCell ⟨g, 2, none⟩ (.int .i64 d1)).setCell ⟨g, 3, none⟩ (.bool true)).alloc (.cells #[.int .i64 0, .string ⟨#[]⟩, .slice none 0 0] 82) = w0 at R0 Z0 G0 ⊢
  have hz0 := Z0.lt
  have s0 := G0.size
  clear c0 f0
  go_wp2_with fail
  refine (iCatBad s d1 g i _ hi R0).mono ?_; rintro e w1 ⟨k, t, kids, Ay, cy, q, bb, rfl, hS1, R1, hg1, hq, hX1⟩
  replace R1 : Blk w1 g 97 #[.string s, .int .i64 q, .int .i64 d1, .bool bb] := R1
  have Z1 := Z0.grown hg1 (by simp; omega)
  have G1 := gr_trans G0 hg1
  have s1 := hg1.size
  have HX := Lib.hid hX1
  clear hX1 R0 Z0 G0 hg1
  go_wp2_with fail
  cases bb
  · exact absurd HX.out (by intro h; cases h)
  go_loopw [3] (fun lv wr => ∃ (A : Option Addr) (c : Nat), lv = .slice A 1 c ∧ Acc wr (w.heap.size + 1) wr.heap.size A 1 c [((k, t), kids)] ∧ Blk wr g 97 #[.string s, .int .i64 q, .int .i64 d1, .bool true] ∧ Blk wr w.heap.size 82 #[.int .i64 0, .string ⟨#[]⟩, .slice none 0 0] ∧ w.grownBy wr (some g)) (fun _ _ => 0)
  case atStart => exact ⟨_, _, rfl, Acc.lit hS1 (by omega) (by omega), R1.alloc _, Z1.alloc _, gr_alloc G1 _⟩
  case round =>
    obtain ⟨A, c, rfl, hA, Rr, Zr, Gr⟩ := hrel
    have p0 := Rr.cell
    have hsr := Gr.size
    have hrw := Zr.lt
    have HE := Lib.hid (show (none : Option (Tr × Nat)) = cond true none (finP 5 (some ([((k, t), kids)], q))) from rfl)
    obtain ⟨n, hn⟩ : ∃ n : Nat, n = 1 := ⟨1, rfl⟩
    rw [← hn] at hA ⊢
    rw [hn] at hA ⊢
    clear hn
    obtain ⟨k, t, kids, ab, A', c', hL, rfl, h3, h4, a0, a1, a2, hS⟩ := hA.one
    have z8 := Zr.cell
    have zf8 := Zr.frozen
    have rf8 := Rr.frozen
    clear hA
    go_wp2_with fail
    have R9 := Rr.set_ 2 (.int .i64 d)
    simp only [List.setIfInBounds_toArray, List.set_cons_succ, List.set_cons_zero] at R9
    have Z9 := Zr.farb (b := g) (j := 2) (by omega) (.int .i64 d)
    have G9 := gr_own (j := 2) Gr (.int .i64 d)
    exact bodyPost_ret (res_cell1 rfl _ _ _ _ _ _ rfl (((Z9.set_ 0 _).set_ 1 _).set_ 2 _) Tryz.underlying82 (by kernel_rfl)) rfl ⟨k, t, kids, A', c', q, true, rfl, ((((hS.setb (b := g) (j := 2) (.inl (by omega)) _).setb (.inl (by omega)) _).setb (.inl (by omega)) _).setb (.inl (by omega)) _).more (by omega) (by simp), ((R9.farb hgr _).farb hgr _).farb hgr _, gr_setm (gr_setm (gr_setm G9 hwr _) hwr _) hwr _, hq, rfl⟩

theorem iAlt (s : ByteArray) (g : Nat) (hs : s.size ≤ 1048576) : ∀ (n : Nat) (d : Int), n ≤ 40 → d = 40 - n → ∀ (w : World) (i : Nat), i ≤ s.size → Blk w g 97 #[.string s, .int .i64 i, .int .i64 d, .bool false] → Calls Tryz.prog 85 #[.pointer (some ⟨g, 0, none⟩)] w fun e w' => RetP (RI s d g) s.size (altP true s n i) g w e w'
  | 0, d, _, hd, w, i, hi, hB => iAltZ s g i w hi d 41 (by omega) rfl hB
  | n + 1, d, hn, hd, w, i, hi, hB => iAltS (altP true s n) s d (d + 1) g i w (altP_fwd hs n) hs rfl (by omega) (by omega) hi hB (iAlt s g hs n (d + 1) (by omega) (by omega))

end Go.Proofs.YtemlnpncljomgaaGreatDoor
