import Derived.Test.YtemlnpncljomgaaGreatDoorPasC
namespace Go.Proofs.YtemlnpncljomgaaGreatDoor
open Go.RowKit

set_option maxRecDepth 20000 in
set_option maxHeartbeats 4000000 in
theorem sItem (F : Nat → Option (Tr × Nat)) (s : ByteArray) (d d1 : Int) (g i : Nat) (w : World) (hs : s.size ≤ 1048576) (hd : d + 1 = d1) (hd0 : 0 ≤ d) (hd8 : d ≤ 8) (hz : 8 < d1 → ∀ i, F i = none) (hi0 : i ≤ s.size) (hB : Blk w g 91 #[.string s, .int .i64 i, .bool false, .int .i64 d])
    (ih : d1 ≤ 8 → ∀ (w : World) (i : Nat), i ≤ s.size → Blk w g 91 #[.string s, .int .i64 i, .bool false, .int .i64 d1] → Calls Tryz.prog 81 #[.pointer (some ⟨g, 0, none⟩)] w fun e w' => RetP (RS s d1 g) s.size (F i) g w e w') :
    Calls Tryz.prog 108 #[.pointer (some ⟨g, 0, none⟩)] w fun e w' => RetP (RS s d g) s.size (itemP F s i) g w e w' := by
  have AT := Lib.hid fun (w : World) (hB : Blk w g 91 #[.string s, .int .i64 i, .bool false, .int .i64 d]) => sAtom F s d d1 g i w hs hd hd0 hd8 hz hi0 hB ih
  clear ih hz hd
  have hgl := hB.lt
  have hgr : g ≠ w.heap.size := by omega
  have hwr := Nat.le_refl w.heap.size
  go_enter Tryz.func108, Tryz.ntmps108
  go_wp2_with fail
  refine (AT.out _ (hB.alloc _)).mono ?_; rintro e w1 ⟨k, t, kids, A, kc, q, bb, rfl, hS1, ⟨dd, hdd, R1⟩, hg1, hq, hX⟩
  have Z1 := (Blk.new w 82 #[.int .i64 0, .string ⟨#[]⟩, .slice none 0 0]).grown hg1 (by simp; omega)
  have G1 := gr_trans (gr_alloc (gr_refl w (some g)) _) hg1
  have s1 := hg1.size
  rw [alloc_size] at s1 hS1
  have HX := Lib.hid hX
  clear hX hg1 AT
  go_upto_region 2 with fail
  have N2 := Blk.new w1 82 #[.int .i64 k, .string t, .slice A kids.len kc]
  have R2 := R1.alloc (.cells #[.int .i64 k, .string t, .slice A kids.len kc] 82)
  have Z2 := Z1.alloc (.cells #[.int .i64 k, .string t, .slice A kids.len kc] 82)
  have G2 := gr_alloc G1 (.cells #[.int .i64 k, .string t, .slice A kids.len kc] 82)
  have hS2 := hS1.keep (w' := w1.alloc (.cells #[.int .i64 k, .string t, .slice A kids.len kc] 82)) (fun p _ h2 => alB _ _ h2) (Nat.le_refl _) (Nat.le_refl _)
  have s2 := Nat.le_of_eq (alloc_size w1 (.cells #[.int .i64 k, .string t, .slice A kids.len kc] 82)).symm
  generalize w1.alloc (.cells #[.int .i64 k, .string t, .slice A kids.len kc] 82) = w2 at N2 R2 Z2 G2 hS2 s2 ⊢
  generalize w1.heap.size = nb at *
  clear R1 Z1 G1 hS1
  cases bb
  case' true =>
    go_wp2_with fail
    refine (sIsBad s dd g q 42 _ R2).mono ?_; rintro e u0 ⟨rfl, Ru0, hgu0⟩
    have Zu0 := Z2.grown hgu0 (by simp; omega)
    have Nu0 := N2.grown hgu0 (by simp; omega)
    have Gu0 := gr_trans G2 hgu0
    have Su0 := hS2.grew hgu0 (fun k e => by cases e; omega) (by omega)
    have su0 := hgu0.size
    go_wp2_with fail
    refine (sIsBad s dd g q 43 _ Ru0).mono ?_; rintro e u1 ⟨rfl, Ru1, hgu1⟩
    have Zu1 := Zu0.grown hgu1 (by simp; omega)
    have Nu1 := Nu0.grown hgu1 (by simp; omega)
    have Gu1 := gr_trans Gu0 hgu1
    have Su1 := Su0.grew hgu1 (fun k e => by cases e; omega) (by omega)
    have su1 := hgu1.size
    go_wp2_with fail
    refine (sIsBad s dd g q 63 _ Ru1).mono ?_; rintro e u2 ⟨rfl, Ru2, hgu2⟩
    have Zu2 := Zu1.grown hgu2 (by simp; omega)
    have Nu2 := Nu1.grown hgu2 (by simp; omega)
    have Gu2 := gr_trans Gu1 hgu2
    have Su2 := Su1.grew hgu2 (fun k e => by cases e; omega) (by omega)
    have su2 := hgu2.size
    have z9 := Zu2.cell
    have zf9 := Zu2.frozen
    have n9 := Nu2.cell
    have hz9 := Zu2.lt
    go_wp2_with fail
    exact bodyPost_ret (res_cell1 rfl _ _ _ _ _ _ rfl (((Zu2.set_ 0 _).set_ 1 _).set_ 2 _) Tryz.underlying82 (by kernel_rfl)) rfl ⟨k, t, kids, A, kc, q, true, rfl, (((Su2.setb (.inl (by omega)) _).setb (.inl (by omega)) _).setb (.inl (by omega)) _).more (by omega) (by simp; omega), ⟨dd, fun h => (by cases h), ((Ru2.farb hgr _).farb hgr _).farb hgr _⟩, gr_setm (gr_setm (gr_setm Gu2 hwr _) hwr _) hwr _, hq, item_none HX.out⟩
  have hd9 := hdd rfl
  subst hd9
  clear hdd
  by_cases hcq42 : bA s q = 42
  · have HR := Lib.hid (show repK (bA s q) = 6 by rw [hcq42]; rfl)
    have hqs := bA_lt (s := s) (i := q) (by omega)
    obtain ⟨q1, hq1⟩ : ∃ q1 : Nat, q + 1 = q1 := ⟨_, rfl⟩
    have hq1s : q1 ≤ s.size := by omega
    have CY := Lib.hid fun w hB => sIsYes s dd g q 42 w hs (by omega) (by omega) q1 hq1 hB
    have HQ1 := Lib.hid hq1
    clear hq1 hcq42
    go_wp2_with fail
    refine (CY.out _ R2).mono ?_; rintro e u9 ⟨rfl, Ru9, hgu9⟩
    have Zu9 := Z2.grown hgu9 (by simp; omega)
    have Nu9 := N2.grown hgu9 (by simp; omega)
    have Gu9 := gr_trans G2 hgu9
    have Su9 := hS2.grew hgu9 (fun k e => by cases e; omega) (by omega)
    have su9 := hgu9.size
    have z6 := Zu9.cell
    have zf6 := Zu9.frozen
    have n6 := Nu9.cell
    have hz6 := Zu9.lt
    go_wp2_with fail
    have hw : (((u9.setCell ⟨w.heap.size, 0, none⟩ (.int .i64 6)).setCell ⟨w.heap.size, 1, none⟩ (.string ⟨#[]⟩)).setCell ⟨w.heap.size, 2, none⟩ (.slice (some ⟨u9.heap.size, 0, none⟩) 1 1)).heap.size = u9.heap.size := by simp
    have NN := Blk.new (((u9.setCell ⟨w.heap.size, 0, none⟩ (.int .i64 6)).setCell ⟨w.heap.size, 1, none⟩ (.string ⟨#[]⟩)).setCell ⟨w.heap.size, 2, none⟩ (.slice (some ⟨u9.heap.size, 0, none⟩) 1 1)) 82 #[.int .i64 k, .string t, .slice A kids.len kc]
    rw [hw] at NN
    have hSF := (((Su9.setb (b := w.heap.size) (j := 0) (.inl (by omega)) (.int .i64 6)).setb (b := w.heap.size) (j := 1) (.inl (by omega)) (.string ⟨#[]⟩)).setb (b := w.heap.size) (j := 2) (.inl (by omega)) (.slice (some ⟨u9.heap.size, 0, none⟩) 1 1)).keep (w' := (((u9.setCell ⟨w.heap.size, 0, none⟩ (.int .i64 6)).setCell ⟨w.heap.size, 1, none⟩ (.string ⟨#[]⟩)).setCell ⟨w.heap.size, 2, none⟩ (.slice (some ⟨u9.heap.size, 0, none⟩) 1 1)).alloc (.cells #[.int .i64 k, .string t, .slice A kids.len kc] 82)) (fun p _ h2 => alB _ _ (by rw [hw]; omega)) (Nat.le_refl _) (Nat.le_refl _)
    have hsz : u9.heap.size + 1 ≤ ((((u9.setCell ⟨w.heap.size, 0, none⟩ (.int .i64 6)).setCell ⟨w.heap.size, 1, none⟩ (.string ⟨#[]⟩)).setCell ⟨w.heap.size, 2, none⟩ (.slice (some ⟨u9.heap.size, 0, none⟩) 1 1)).alloc (.cells #[.int .i64 k, .string t, .slice A kids.len kc] 82)).heap.size := by rw [alloc_size, hw]; exact Nat.le_refl _
    have hSN := dj_one NN hSF (.inr (by omega)) (show w.heap.size ≤ u9.heap.size by omega) hsz (by omega) (by omega)
    exact bodyPost_ret (res_cell1 rfl _ _ _ _ _ _ rfl ((((Zu9.set_ 0 _).set_ 1 _).set_ 2 _).alloc _) Tryz.underlying82 (by kernel_rfl)) rfl ⟨6, ⟨#[]⟩, .cons (k, t) kids .nil, some ⟨u9.heap.size, 0, none⟩, 1, q1, false, rfl, hSN, ⟨dd, fun _ => rfl, (((Ru9.farb hgr _).farb hgr _).farb hgr _).alloc _⟩, gr_alloc (gr_setm (gr_setm (gr_setm Gu9 hwr _) hwr _) hwr _) _, hq1s, (item_rep HX.out HR.out (by decide)).trans (by rw [HQ1.out]; rfl)⟩
  by_cases hcq43 : bA s q = 43
  · have HR := Lib.hid (show repK (bA s q) = 7 by rw [hcq43]; rfl)
    have hqs := bA_lt (s := s) (i := q) (by omega)
    obtain ⟨q1, hq1⟩ : ∃ q1 : Nat, q + 1 = q1 := ⟨_, rfl⟩
    have hq1s : q1 ≤ s.size := by omega
    have CY := Lib.hid fun w hB => sIsYes s dd g q 43 w hs (by omega) (by omega) q1 hq1 hB
    have HQ1 := Lib.hid hq1
    have hne42 : (bA s q : Int) ≠ 42 := by omega
    clear hq1 hcq43
    go_wp2_with fail
    refine (sIsNo s dd g q 42 _ hs hne42 R2).mono ?_; rintro e u0 ⟨rfl, Ru0, hgu0⟩
    have Zu0 := Z2.grown hgu0 (by simp; omega)
    have Nu0 := N2.grown hgu0 (by simp; omega)
    have Gu0 := gr_trans G2 hgu0
    have Su0 := hS2.grew hgu0 (fun k e => by cases e; omega) (by omega)
    have su0 := hgu0.size
    go_wp2_with fail
    refine (CY.out _ Ru0).mono ?_; rintro e u9 ⟨rfl, Ru9, hgu9⟩
    have Zu9 := Zu0.grown hgu9 (by simp; omega)
    have Nu9 := Nu0.grown hgu9 (by simp; omega)
    have Gu9 := gr_trans Gu0 hgu9
    have Su9 := Su0.grew hgu9 (fun k e => by cases e; omega) (by omega)
    have su9 := hgu9.size
    have z6 := Zu9.cell
    have zf6 := Zu9.frozen
    have n6 := Nu9.cell
    have hz6 := Zu9.lt
    go_wp2_with fail
    have hw : (((u9.setCell ⟨w.heap.size, 0, none⟩ (.int .i64 7)).setCell ⟨w.heap.size, 1, none⟩ (.string ⟨#[]⟩)).setCell ⟨w.heap.size, 2, none⟩ (.slice (some ⟨u9.heap.size, 0, none⟩) 1 1)).heap.size = u9.heap.size := by simp
    have NN := Blk.new (((u9.setCell ⟨w.heap.size, 0, none⟩ (.int .i64 7)).setCell ⟨w.heap.size, 1, none⟩ (.string ⟨#[]⟩)).setCell ⟨w.heap.size, 2, none⟩ (.slice (some ⟨u9.heap.size, 0, none⟩) 1 1)) 82 #[.int .i64 k, .string t, .slice A kids.len kc]
    rw [hw] at NN
    have hSF := (((Su9.setb (b := w.heap.size) (j := 0) (.inl (by omega)) (.int .i64 7)).setb (b := w.heap.size) (j := 1) (.inl (by omega)) (.string ⟨#[]⟩)).setb (b := w.heap.size) (j := 2) (.inl (by omega)) (.slice (some ⟨u9.heap.size, 0, none⟩) 1 1)).keep (w' := (((u9.setCell ⟨w.heap.size, 0, none⟩ (.int .i64 7)).setCell ⟨w.heap.size, 1, none⟩ (.string ⟨#[]⟩)).setCell ⟨w.heap.size, 2, none⟩ (.slice (some ⟨u9.heap.size, 0, none⟩) 1 1)).alloc (.cells #[.int .i64 k, .string t, .slice A kids.len kc] 82)) (fun p _ h2 => alB _ _ (by rw [hw]; omega)) (Nat.le_refl _) (Nat.le_refl _)
    have hsz : u9.heap.size + 1 ≤ ((((u9.setCell ⟨w.heap.size, 0, none⟩ (.int .i64 7)).setCell ⟨w.heap.size, 1, none⟩ (.string ⟨#[]⟩)).setCell ⟨w.heap.size, 2, none⟩ (.slice (some ⟨u9.heap.size, 0, none⟩) 1 1)).alloc (.cells #[.int .i64 k, .string t, .slice A kids.len kc] 82)).heap.size := by rw [alloc_size, hw]; exact Nat.le_refl _
    have hSN := dj_one NN hSF (.inr (by omega)) (show w.heap.size ≤ u9.heap.size by omega) hsz (by omega) (by omega)
    exact bodyPost_ret (res_cell1 rfl _ _ _ _ _ _ rfl ((((Zu9.set_ 0 _).set_ 1 _).set_ 2 _).alloc _) Tryz.underlying82 (by kernel_rfl)) rfl ⟨7, ⟨#[]⟩, .cons (k, t) kids .nil, some ⟨u9.heap.size, 0, none⟩, 1, q1, false, rfl, hSN, ⟨dd, fun _ => rfl, (((Ru9.farb hgr _).farb hgr _).farb hgr _).alloc _⟩, gr_alloc (gr_setm (gr_setm (gr_setm Gu9 hwr _) hwr _) hwr _) _, hq1s, (item_rep HX.out HR.out (by decide)).trans (by rw [HQ1.out]; rfl)⟩
  by_cases hcq63 : bA s q = 63
  · have HR := Lib.hid (show repK (bA s q) = 8 by rw [hcq63]; rfl)
    have hqs := bA_lt (s := s) (i := q) (by omega)
    obtain ⟨q1, hq1⟩ : ∃ q1 : Nat, q + 1 = q1 := ⟨_, rfl⟩
    have hq1s : q1 ≤ s.size := by omega
    have CY := Lib.hid fun w hB => sIsYes s dd g q 63 w hs (by omega) (by omega) q1 hq1 hB
    have HQ1 := Lib.hid hq1
    have hne42 : (bA s q : Int) ≠ 42 := by omega
    have hne43 : (bA s q : Int) ≠ 43 := by omega
    clear hq1 hcq63
    go_wp2_with fail
    refine (sIsNo s dd g q 42 _ hs hne42 R2).mono ?_; rintro e u0 ⟨rfl, Ru0, hgu0⟩
    have Zu0 := Z2.grown hgu0 (by simp; omega)
    have Nu0 := N2.grown hgu0 (by simp; omega)
    have Gu0 := gr_trans G2 hgu0
    have Su0 := hS2.grew hgu0 (fun k e => by cases e; omega) (by omega)
    have su0 := hgu0.size
    go_wp2_with fail
    refine (sIsNo s dd g q 43 _ hs hne43 Ru0).mono ?_; rintro e u1 ⟨rfl, Ru1, hgu1⟩
    have Zu1 := Zu0.grown hgu1 (by simp; omega)
    have Nu1 := Nu0.grown hgu1 (by simp; omega)
    have Gu1 := gr_trans Gu0 hgu1
    have Su1 := Su0.grew hgu1 (fun k e => by cases e; omega) (by omega)
    have su1 := hgu1.size
    go_wp2_with fail
    refine (CY.out _ Ru1).mono ?_; rintro e u9 ⟨rfl, Ru9, hgu9⟩
    have Zu9 := Zu1.grown hgu9 (by simp; omega)
    have Nu9 := Nu1.grown hgu9 (by simp; omega)
    have Gu9 := gr_trans Gu1 hgu9
    have Su9 := Su1.grew hgu9 (fun k e => by cases e; omega) (by omega)
    have su9 := hgu9.size
    have z6 := Zu9.cell
    have zf6 := Zu9.frozen
    have n6 := Nu9.cell
    have hz6 := Zu9.lt
    go_wp2_with fail
    have hw : (((u9.setCell ⟨w.heap.size, 0, none⟩ (.int .i64 8)).setCell ⟨w.heap.size, 1, none⟩ (.string ⟨#[]⟩)).setCell ⟨w.heap.size, 2, none⟩ (.slice (some ⟨u9.heap.size, 0, none⟩) 1 1)).heap.size = u9.heap.size := by simp
    have NN := Blk.new (((u9.setCell ⟨w.heap.size, 0, none⟩ (.int .i64 8)).setCell ⟨w.heap.size, 1, none⟩ (.string ⟨#[]⟩)).setCell ⟨w.heap.size, 2, none⟩ (.slice (some ⟨u9.heap.size, 0, none⟩) 1 1)) 82 #[.int .i64 k, .string t, .slice A kids.len kc]
    rw [hw] at NN
    have hSF := (((Su9.setb (b := w.heap.size) (j := 0) (.inl (by omega)) (.int .i64 8)).setb (b := w.heap.size) (j := 1) (.inl (by omega)) (.string ⟨#[]⟩)).setb (b := w.heap.size) (j := 2) (.inl (by omega)) (.slice (some ⟨u9.heap.size, 0, none⟩) 1 1)).keep (w' := (((u9.setCell ⟨w.heap.size, 0, none⟩ (.int .i64 8)).setCell ⟨w.heap.size, 1, none⟩ (.string ⟨#[]⟩)).setCell ⟨w.heap.size, 2, none⟩ (.slice (some ⟨u9.heap.size, 0, none⟩) 1 1)).alloc (.cells #[.int .i64 k, .string t, .slice A kids.len kc] 82)) (fun p _ h2 => alB _ _ (by rw [hw]; omega)) (Nat.le_refl _) (Nat.le_refl _)
    have hsz : u9.heap.size + 1 ≤ ((((u9.setCell ⟨w.heap.size, 0, none⟩ (.int .i64 8)).setCell ⟨w.heap.size, 1, none⟩ (.string ⟨#[]⟩)).setCell ⟨w.heap.size, 2, none⟩ (.slice (some ⟨u9.heap.size, 0, none⟩) 1 1)).alloc (.cells #[.int .i64 k, .string t, .slice A kids.len kc] 82)).heap.size := by rw [alloc_size, hw]; exact Nat.le_refl _
    have hSN := dj_one NN hSF (.inr (by omega)) (show w.heap.size ≤ u9.heap.size by omega) hsz (by omega) (by omega)
    exact bodyPost_ret (res_cell1 rfl _ _ _ _ _ _ rfl ((((Zu9.set_ 0 _).set_ 1 _).set_ 2 _).alloc _) Tryz.underlying82 (by kernel_rfl)) rfl ⟨8, ⟨#[]⟩, .cons (k, t) kids .nil, some ⟨u9.heap.size, 0, none⟩, 1, q1, false, rfl, hSN, ⟨dd, fun _ => rfl, (((Ru9.farb hgr _).farb hgr _).farb hgr _).alloc _⟩, gr_alloc (gr_setm (gr_setm (gr_setm Gu9 hwr _) hwr _) hwr _) _, hq1s, (item_rep HX.out HR.out (by decide)).trans (by rw [HQ1.out]; rfl)⟩
  have HR := Lib.hid (show repK (bA s q) = 0 by unfold repK; rw [if_neg hcq42, if_neg hcq43, if_neg hcq63])
  have hne42 : (bA s q : Int) ≠ 42 := by omega
  have hne43 : (bA s q : Int) ≠ 43 := by omega
  have hne63 : (bA s q : Int) ≠ 63 := by omega
  go_wp2_with fail
  refine (sIsNo s dd g q 42 _ hs hne42 R2).mono ?_; rintro e u0 ⟨rfl, Ru0, hgu0⟩
  have Zu0 := Z2.grown hgu0 (by simp; omega)
  have Nu0 := N2.grown hgu0 (by simp; omega)
  have Gu0 := gr_trans G2 hgu0
  have Su0 := hS2.grew hgu0 (fun k e => by cases e; omega) (by omega)
  have su0 := hgu0.size
  go_wp2_with fail
  refine (sIsNo s dd g q 43 _ hs hne43 Ru0).mono ?_; rintro e u1 ⟨rfl, Ru1, hgu1⟩
  have Zu1 := Zu0.grown hgu1 (by simp; omega)
  have Nu1 := Nu0.grown hgu1 (by simp; omega)
  have Gu1 := gr_trans Gu0 hgu1
  have Su1 := Su0.grew hgu1 (fun k e => by cases e; omega) (by omega)
  have su1 := hgu1.size
  go_wp2_with fail
  refine (sIsNo s dd g q 63 _ hs hne63 Ru1).mono ?_; rintro e u2 ⟨rfl, Ru2, hgu2⟩
  have Zu2 := Zu1.grown hgu2 (by simp; omega)
  have Nu2 := Nu1.grown hgu2 (by simp; omega)
  have Gu2 := gr_trans Gu1 hgu2
  have Su2 := Su1.grew hgu2 (fun k e => by cases e; omega) (by omega)
  have su2 := hgu2.size
  have z9 := Zu2.cell
  have zf9 := Zu2.frozen
  have n9 := Nu2.cell
  have hz9 := Zu2.lt
  go_wp2_with fail
  exact bodyPost_ret (res_cell1 rfl _ _ _ _ _ _ rfl (((Zu2.set_ 0 _).set_ 1 _).set_ 2 _) Tryz.underlying82 (by kernel_rfl)) rfl ⟨k, t, kids, A, kc, q, false, rfl, (((Su2.setb (.inl (by omega)) _).setb (.inl (by omega)) _).setb (.inl (by omega)) _).more (by omega) (by simp; omega), ⟨dd, fun _ => rfl, ((Ru2.farb hgr _).farb hgr _).farb hgr _⟩, gr_setm (gr_setm (gr_setm Gu2 hwr _) hwr _) hwr _, hq, item_plain HX.out HR.out⟩

end Go.Proofs.YtemlnpncljomgaaGreatDoor
