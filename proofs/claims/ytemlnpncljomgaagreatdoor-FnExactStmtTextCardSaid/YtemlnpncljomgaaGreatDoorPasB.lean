import Derived.Test.YtemlnpncljomgaaGreatDoorPasA
namespace Go.Proofs.YtemlnpncljomgaaGreatDoor
open Go.RowKit

def RS (s : ByteArray) (d : Int) (g : Nat) (w : World) (q : Nat) (b : Bool) : Prop := ∃ dd : Int, (b = false → dd = d) ∧ Blk w g 91 #[.string s, .int .i64 q, .bool b, .int .i64 dd]

set_option maxRecDepth 20000 in
set_option maxHeartbeats 8000000 in
theorem sGroup (F : Nat → Option (Tr × Nat)) (s : ByteArray) (d d1 : Int) (g i : Nat) (w : World) (hs : s.size ≤ 1048576) (hd : d + 1 = d1) (hd0 : 0 ≤ d) (hd8 : d ≤ 8) (hz : 8 < d1 → ∀ i, F i = none) (hi : i ≤ s.size) (hB : Blk w g 91 #[.string s, .int .i64 i, .bool false, .int .i64 d])
    (ih : d1 ≤ 8 → ∀ (w : World) (i : Nat), i ≤ s.size → Blk w g 91 #[.string s, .int .i64 i, .bool false, .int .i64 d1] → Calls Tryz.prog 81 #[.pointer (some ⟨g, 0, none⟩)] w fun e w' => RetP (RS s d1 g) s.size (F i) g w e w') :
    Calls Tryz.prog 131 #[.pointer (some ⟨g, 0, none⟩)] w fun e w' => RetP (RS s d g) s.size (groupP F s i) g w e w' := by
  have HI := Lib.hid ih
  have HZ := Lib.hid hz
  clear ih hz
  generalize hGR : groupP F s i = GR
  have HGR := Lib.hid hGR.symm
  clear hGR
  have hgl := hB.lt
  have hgr : g ≠ w.heap.size := by omega
  have hwr := Nat.le_refl w.heap.size
  have ed : IntKind.i64.wrap (d + 1) = d1 := by rw [IntWalk.i64_in _ (by omega)]; exact hd
  go_enter Tryz.func131, Tryz.ntmps131
  by_cases h41 : bA s i = 41
  · have HX := Lib.hid (HGR.out.trans (group_empty h41))
    have his := bA_lt (s := s) (i := i) (by omega)
    obtain ⟨j, hj⟩ : ∃ j : Nat, i + 1 = j := ⟨_, rfl⟩
    have C := Lib.hid fun w hB => sIsYes s d g i 41 w hs (by omega) (by omega) j hj hB
    have hjs : j ≤ s.size := by omega
    have HJ := Lib.hid hj
    clear hj h41
    go_wp2_with fail
    refine (C.out _ (hB.alloc _)).mono ?_; rintro e w1 ⟨rfl, R1, hg1⟩
    have Z1 := (Blk.new w 82 #[.int .i64 0, .string ⟨#[]⟩, .slice none 0 0]).grown hg1 (by simp; omega)
    have G1 := gr_trans (gr_alloc (gr_refl w (some g)) _) hg1
    have z1 := Z1.cell
    have zf1 := Z1.frozen
    go_wp2_with fail
    exact bodyPost_ret (res_cell1 rfl _ _ _ _ _ _ rfl (((Z1.set_ 0 _).set_ 1 _).set_ 2 _) Tryz.underlying82 (by kernel_rfl)) rfl ⟨9, ⟨#[]⟩, .nil, none, 0, j, false, rfl, djNil _ _ _ _, ⟨_, fun h => (by first | rfl | cases h), ((R1.farb hgr _).farb hgr _).farb hgr _⟩, gr_setm (gr_setm (gr_setm G1 hwr _) hwr _) hwr _, hjs, HX.out.trans (by rw [HJ.out]; rfl)⟩
  have C := Lib.hid fun w hB => sIsNo s d g i 41 w hs (by omega) hB
  have H41 := Lib.hid h41
  clear h41
  go_wp2_with fail
  refine (C.out _ (hB.alloc _)).mono ?_; rintro e w1 ⟨rfl, R1, hg1⟩
  have Z1 := (Blk.new w 82 #[.int .i64 0, .string ⟨#[]⟩, .slice none 0 0]).grown hg1 (by simp; omega)
  have G1 := gr_trans (gr_alloc (gr_refl w (some g)) _) hg1
  have p1 := R1.cell
  have f1 := R1.frozen
  go_upto_region 4 with fail
  have R2 := R1.set_ 3 (.int .i64 d1)
  simp only [List.setIfInBounds_toArray, List.set_cons_succ, List.set_cons_zero] at R2
  have Z2 := Z1.farb (b := g) (j := 3) (by omega) (.int .i64 d1)
  have G2 := gr_own (j := 3) G1 (.int .i64 d1)
  generalize w1.setCell ⟨g, 3, none⟩ (.int .i64 d1) = w2 at R2 Z2 G2 ⊢
  clear R1 Z1 G1 p1 f1 hg1
  have p2 := R2.cell
  have f2 := R2.frozen
  have s2 := G2.size
  have hz2 := Z2.lt
  by_cases h8 : 8 < d1
  · have HX := Lib.hid (HGR.out.trans (group_bad H41.out (HZ.out h8 i)))
    go_wp2_with fail
    refine (sBad s d1 g i false _ R2).mono ?_; rintro e w9 ⟨rfl, R9, hg9⟩
    have Z9 := Z2.grown hg9 (by simp; omega)
    have G9 := gr_trans G2 hg9
    have z9 := Z9.cell
    have zf9 := Z9.frozen
    go_wp2_with fail
    exact bodyPost_ret (res_cell1 rfl _ _ _ _ _ _ rfl (((Z9.set_ 0 _).set_ 1 _).set_ 2 _) Tryz.underlying82 (by kernel_rfl)) rfl ⟨0, ⟨#[]⟩, .nil, none, 0, i, true, rfl, djNil _ _ _ _, ⟨_, fun h => (by first | rfl | cases h), ((R9.farb hgr _).farb hgr _).farb hgr _⟩, gr_setm (gr_setm (gr_setm G9 hwr _) hwr _) hwr _, hi, HX.out⟩
  have IH := Lib.hid (HI.out (by omega))
  clear HI
  go_wp2_with fail
  refine (IH.out _ i hi R2).mono ?_; rintro e w3 ⟨k, t, kids, A, kc, q, bb, rfl, hS3, ⟨dd, hdd, R3⟩, hg3, hq, hX⟩
  have Z3 := Z2.grown hg3 (by simp; omega)
  have G3 := gr_trans G2 hg3
  have s3 := hg3.size
  have HX := Lib.hid hX
  clear hX p2 f2 R2 Z2 G2 hg3
  have N4 := Blk.new w3 82 #[.int .i64 k, .string t, .slice A kids.len kc]
  have R4 := R3.alloc (.cells #[.int .i64 k, .string t, .slice A kids.len kc] 82)
  have Z4 := Z3.alloc (.cells #[.int .i64 k, .string t, .slice A kids.len kc] 82)
  have G4 := gr_alloc G3 (.cells #[.int .i64 k, .string t, .slice A kids.len kc] 82)
  have hS4 := hS3.keep (w' := w3.alloc (.cells #[.int .i64 k, .string t, .slice A kids.len kc] 82)) (fun p _ h2 => alB _ _ h2) (Nat.le_refl _) (Nat.le_refl _)
  have s4 := Nat.le_of_eq (alloc_size w3 (.cells #[.int .i64 k, .string t, .slice A kids.len kc] 82)).symm
  obtain ⟨de, hde⟩ : ∃ de : Int, IntKind.i64.wrap (dd - 1) = de := ⟨_, rfl⟩
  have HDE := Lib.hid (show bb = false → de = d from fun h => by rw [← hde, hdd h]; rw [IntWalk.i64_in _ (by omega)]; omega)
  clear hdd
  go_upto_region 7 with fail
  generalize w3.alloc (.cells #[.int .i64 k, .string t, .slice A kids.len kc] 82) = w4 at N4 R4 Z4 G4 hS4 s4 ⊢
  generalize w3.heap.size = nb at *
  clear R3 Z3 G3 hS3
  have p4 := R4.cell
  have f4 := R4.frozen
  go_upto_region 8 with fail
  have R5 := R4.set_ 3 (.int .i64 de)
  simp only [List.setIfInBounds_toArray, List.set_cons_succ, List.set_cons_zero] at R5
  have Z5 := Z4.farb (b := g) (j := 3) (by omega) (.int .i64 de)
  have N5 := N4.farb (b := g) (j := 3) (by omega) (.int .i64 de)
  have G5 := gr_own (j := 3) G4 (.int .i64 de)
  have hS5 := hS4.setb (b := g) (j := 3) (.inl (by omega)) (.int .i64 de)
  have s5 : w4.heap.size ≤ (w4.setCell ⟨g, 3, none⟩ (.int .i64 de)).heap.size := by simp
  generalize w4.setCell ⟨g, 3, none⟩ (.int .i64 de) = w5 at R5 N5 Z5 G5 hS5 s5 ⊢
  clear R4 Z4 N4 G4 hS4 p4 f4 hde
  cases bb
  case true =>
    have HN := Lib.hid (HGR.out.trans (group_bad H41.out HX.out))
    have C := Lib.hid fun w hB => sIsBad s de g q 41 w hB
    go_wp2_with fail
    refine (C.out _ R5).mono ?_; rintro e w6 ⟨rfl, R6, hg6⟩
    have Z6 := Z5.grown hg6 (by simp; omega)
    have G6 := gr_trans G5 hg6
    have s6 := hg6.size
    go_wp2_with fail
    refine (sBad s de g q true _ R6).mono ?_; rintro e w9 ⟨rfl, R9, hg9⟩
    have Z9 := Z6.grown hg9 (by simp; omega)
    have G9 := gr_trans G6 hg9
    have z9 := Z9.cell
    have zf9 := Z9.frozen
    go_wp2_with fail
    exact bodyPost_ret (res_cell1 rfl _ _ _ _ _ _ rfl (((Z9.set_ 0 _).set_ 1 _).set_ 2 _) Tryz.underlying82 (by kernel_rfl)) rfl ⟨0, ⟨#[]⟩, .nil, none, 0, q, true, rfl, djNil _ _ _ _, ⟨_, fun h => (by first | rfl | cases h), ((R9.farb hgr _).farb hgr _).farb hgr _⟩, gr_setm (gr_setm (gr_setm G9 hwr _) hwr _) hwr _, hq, HN.out⟩
  have hd9 := HDE.out rfl
  subst hd9
  by_cases h41 : bA s q = 41
  · have HN := Lib.hid (HGR.out.trans (group_some H41.out HX.out h41))
    have his := bA_lt (s := s) (i := q) (by omega)
    obtain ⟨j, hj⟩ : ∃ j : Nat, q + 1 = j := ⟨_, rfl⟩
    have C := Lib.hid fun w hB => sIsYes s de g q 41 w hs (by omega) (by omega) j hj hB
    have hjs : j ≤ s.size := by omega
    have HJ := Lib.hid hj
    clear hj h41
    go_wp2_with fail
    refine (C.out _ R5).mono ?_; rintro e w6 ⟨rfl, R6, hg6⟩
    have Z6 := Z5.grown hg6 (by simp; omega)
    have N6 := N5.grown hg6 (by simp; omega)
    have G6 := gr_trans G5 hg6
    have s6 := hg6.size
    have hS6 := hS5.grew hg6 (fun k e => by cases e; omega) (by omega)
    have z6 := Z6.cell
    have zf6 := Z6.frozen
    have n6 := N6.cell
    go_wp2_with fail
    exact bodyPost_ret (res_cell1 rfl _ _ _ _ _ _ rfl (((Z6.set_ 0 _).set_ 1 _).set_ 2 _) Tryz.underlying82 (by kernel_rfl)) rfl ⟨k, t, kids, A, kc, j, false, rfl, (((hS6.setb (.inl (by omega)) _).setb (.inl (by omega)) _).setb (.inl (by omega)) _).more (by omega) (by simp; omega), ⟨_, fun h => (by first | rfl | cases h), ((R6.farb hgr _).farb hgr _).farb hgr _⟩, gr_setm (gr_setm (gr_setm G6 hwr _) hwr _) hwr _, hjs, HN.out.trans (by rw [HJ.out]; rfl)⟩
  have HN := Lib.hid (HGR.out.trans (group_open H41.out HX.out h41))
  have C := Lib.hid fun w hB => sIsNo s de g q 41 w hs (by omega) hB
  clear h41
  go_wp2_with fail
  refine (C.out _ R5).mono ?_; rintro e w6 ⟨rfl, R6, hg6⟩
  have Z6 := Z5.grown hg6 (by simp; omega)
  have G6 := gr_trans G5 hg6
  have s6 := hg6.size
  go_wp2_with fail
  refine (sBad s de g q false _ R6).mono ?_; rintro e w9 ⟨rfl, R9, hg9⟩
  have Z9 := Z6.grown hg9 (by simp; omega)
  have G9 := gr_trans G6 hg9
  have z9 := Z9.cell
  have zf9 := Z9.frozen
  go_wp2_with fail
  exact bodyPost_ret (res_cell1 rfl _ _ _ _ _ _ rfl (((Z9.set_ 0 _).set_ 1 _).set_ 2 _) Tryz.underlying82 (by kernel_rfl)) rfl ⟨0, ⟨#[]⟩, .nil, none, 0, q, true, rfl, djNil _ _ _ _, ⟨_, fun h => (by first | rfl | cases h), ((R9.farb hgr _).farb hgr _).farb hgr _⟩, gr_setm (gr_setm (gr_setm G9 hwr _) hwr _) hwr _, hq, HN.out⟩

end Go.Proofs.YtemlnpncljomgaaGreatDoor
