import Derived.Test.YtemlnpncljomgaaGreatDoorParJ
namespace Go.Proofs.YtemlnpncljomgaaGreatDoor
open Go.RowKit

set_option maxRecDepth 20000 in
set_option maxHeartbeats 8000000 in
theorem iCat (F : Nat → Option (Tr × Nat)) (s : ByteArray) (d : Int) (g i : Nat) (w : World) (hF : Fwd s F) (hs : s.size ≤ 1048576) (hi : i ≤ s.size) (hB : Blk w g 97 #[.string s, .int .i64 i, .int .i64 d, .bool false])
    (ih : ∀ (w : World) (i : Nat), i ≤ s.size → Blk w g 97 #[.string s, .int .i64 i, .int .i64 d, .bool false] → Calls Tryz.prog 85 #[.pointer (some ⟨g, 0, none⟩)] w fun e w' => RetP (RI s d g) s.size (F i) g w e w') :
    Calls Tryz.prog 99 #[.pointer (some ⟨g, 0, none⟩)] w fun e w' => RetP (RI s d g) s.size (catP true F s i) g w e w' := by
  have IT := Lib.hid fun (w : World) (i : Nat) (hi : i < s.size) (hB : Blk w g 97 #[.string s, .int .i64 i, .int .i64 d, .bool false]) => iItem F s d g i w hF hs hi hB ih
  clear ih
  obtain ⟨j0, hj, hy0, hy1, hy2⟩ := info_parts info_Rex
  have hgl := hB.lt
  have hgr : g ≠ w.heap.size := by omega
  have hwr := Nat.le_refl w.heap.size
  generalize hCF : catP true F s i = CF
  have HCF := Lib.hid hCF.symm
  clear hCF
  go_enter Tryz.func99, Tryz.ntmps99
  go_wp2_with fail
  go_loopw [3] (fun lv wr => ∃ (L : List Tr) (A : Option Addr) (n c q : Nat) (b : Bool), lv = .slice A n c ∧ Acc wr (w.heap.size + 1) wr.heap.size A n c L ∧ Blk wr g 97 #[.string s, .int .i64 q, .int .i64 d, .bool b] ∧ Blk wr w.heap.size 82 #[.int .i64 0, .string ⟨#[]⟩, .slice none 0 0] ∧ w.grownBy wr (some g) ∧ q ≤ s.size ∧ (b = false → n ≤ q ∧ CF = finP 4 (itemsP true F s (s.size - q) L q)) ∧ (b = true → CF = none)) (fun lv _ => s.size + 1 - lenV lv)
  case atStart => exact ⟨[], none, 0, 0, i, false, rfl, Acc.nil _ _, hB.alloc _, Blk.new w 82 #[.int .i64 0, .string ⟨#[]⟩, .slice none 0 0], gr_alloc (gr_refl w (some g)) _, hi, fun _ => ⟨Nat.zero_le _, HCF.out⟩, fun h => by cases h⟩
  case round =>
    obtain ⟨L, A, n, c, q, b, rfl, hA, Rr, Zr, Gr, hq, hb0, hb1⟩ := hrel
    have p0 := Rr.cell
    have hsr := Gr.size
    have hrw := Zr.lt
    cases b
    case true =>
      have HE := Lib.hid (show CF = cond true none (finP 4 (some (L, q))) from hb1 rfl)
      clear hb0 hb1
      go_upto_region 4 with fail
      rcases (show n = 0 ∨ n = 1 ∨ 2 ≤ n by omega) with rfl | rfl | h2
      · have hL0 := List.eq_nil_of_length_eq_zero hA.1
        subst hL0
        have z8 := Zr.cell
        have zf8 := Zr.frozen
        have r8 := Rr.cell
        have rf8 := Rr.frozen
        go_wp2_with fail
        have R9 := Rr.set_ 3 (.bool true)
        simp only [List.setIfInBounds_toArray, List.set_cons_succ, List.set_cons_zero] at R9
        have Z9 := Zr.farb (b := g) (j := 3) (by omega) (.bool true)
        have G9 := gr_own (j := 3) Gr (.bool true)
        exact bodyPost_ret (res_cell1 rfl _ _ _ _ _ _ rfl (((Z9.set_ 0 _).set_ 1 _).set_ 2 _) Tryz.underlying82 (by kernel_rfl)) rfl ⟨0, ⟨#[]⟩, .nil, none, 0, q, true, rfl, djNil _ _ _ _, ((R9.farb hgr _).farb hgr _).farb hgr _, gr_setm (gr_setm (gr_setm G9 hwr _) hwr _) hwr _, hq, HE.out.trans rfl⟩
      · obtain ⟨k, t, kids, ab, A', c', rfl, rfl, h3, h4, a0, a1, a2, hS⟩ := hA.one
        have z8 := Zr.cell
        have zf8 := Zr.frozen
        have r8 := Rr.cell
        have rf8 := Rr.frozen
        have hw8 := Zr.lt
        clear hA
        go_wp2_with fail
        exact bodyPost_ret (res_cell1 rfl _ _ _ _ _ _ rfl (((Zr.set_ 0 _).set_ 1 _).set_ 2 _) Tryz.underlying82 (by kernel_rfl)) rfl ⟨k, t, kids, A', c', q, true, rfl, (((hS.setb (.inl (by omega)) _).setb (.inl (by omega)) _).setb (.inl (by omega)) _).more (by omega) (by simp), ((Rr.farb hgr _).farb hgr _).farb hgr _, gr_setm (gr_setm (gr_setm Gr hwr _) hwr _) hwr _, hq, HE.out⟩
      · obtain ⟨hn9, hS⟩ := hA.done
        have b0 : ((n : Int) == 0) = false := beq_eq_false_iff_ne.2 (by omega)
        have b1 : ((n : Int) == 1) = false := beq_eq_false_iff_ne.2 (by omega)
        have HV := Lib.hid (HE.out.trans (show cond true none (finP 4 (some (L, q))) = cond true none (some (((4, ⟨#[]⟩), mkFr L), q)) from rfl))
        have z8 := Zr.cell
        have zf8 := Zr.frozen
        have r8 := Rr.cell
        have rf8 := Rr.frozen
        have hw8 := Zr.lt
        clear hA
        go_wp2_with fail
        subst hn9
        exact bodyPost_ret (res_cell1 rfl _ _ _ _ _ _ rfl (((Zr.set_ 0 _).set_ 1 _).set_ 2 _) Tryz.underlying82 (by kernel_rfl)) rfl ⟨4, ⟨#[]⟩, mkFr L, A, c, q, true, rfl, (((hS.setb (.inl (by omega)) _).setb (.inl (by omega)) _).setb (.inl (by omega)) _).more (by omega) (by simp), ((Rr.farb hgr _).farb hgr _).farb hgr _, gr_setm (gr_setm (gr_setm Gr hwr _) hwr _) hwr _, hq, HV.out⟩
    obtain ⟨hnq, hE0⟩ := hb0 rfl
    have HI := Lib.hid hE0
    clear hE0 hb0 hb1
    by_cases h0 : bA s q = 0 ∨ bA s q = 256
    · have hst : stopB true (bA s q) = true := by rcases h0 with h | h <;> rw [h] <;> rfl
      have HE := Lib.hid (show CF = cond false none (finP 4 (some (L, q))) from HI.out.trans (by rw [itemsP_stop hst]; rfl))
      clear hst HI
      have n0_ : (nx (bA s q) != 0) = false := by rcases h0 with h | h <;> rw [h] <;> rfl
      generalize hnx : nx (bA s q) = y at n0_
      have NX := Lib.hid hnx
      clear hnx
      clear h0
      go_wp2_with fail
      refine (iNext s d g q false _ hs Rr).mono ?_; rintro e v0 ⟨rfl, Rv0, hgv0⟩
      rw [NX.out]
      have Zv0 := Zr.grown hgv0 (by simp; omega)
      have Av0 := hA.grown hgv0 (by omega)
      have Gv0 := gr_trans Gr hgv0
      clear Rr Zr hA Gr hgv0
      go_upto_region 4 with fail
      rcases (show n = 0 ∨ n = 1 ∨ 2 ≤ n by omega) with rfl | rfl | h2
      · have hL0 := List.eq_nil_of_length_eq_zero Av0.1
        subst hL0
        have z8 := Zv0.cell
        have zf8 := Zv0.frozen
        have r8 := Rv0.cell
        have rf8 := Rv0.frozen
        go_wp2_with fail
        have R9 := Rv0.set_ 3 (.bool true)
        simp only [List.setIfInBounds_toArray, List.set_cons_succ, List.set_cons_zero] at R9
        have Z9 := Zv0.farb (b := g) (j := 3) (by omega) (.bool true)
        have G9 := gr_own (j := 3) Gv0 (.bool true)
        exact bodyPost_ret (res_cell1 rfl _ _ _ _ _ _ rfl (((Z9.set_ 0 _).set_ 1 _).set_ 2 _) Tryz.underlying82 (by kernel_rfl)) rfl ⟨0, ⟨#[]⟩, .nil, none, 0, q, true, rfl, djNil _ _ _ _, ((R9.farb hgr _).farb hgr _).farb hgr _, gr_setm (gr_setm (gr_setm G9 hwr _) hwr _) hwr _, hq, HE.out.trans rfl⟩
      · obtain ⟨k, t, kids, ab, A', c', rfl, rfl, h3, h4, a0, a1, a2, hS⟩ := Av0.one
        have z8 := Zv0.cell
        have zf8 := Zv0.frozen
        have r8 := Rv0.cell
        have rf8 := Rv0.frozen
        have hw8 := Zv0.lt
        clear Av0
        go_wp2_with fail
        exact bodyPost_ret (res_cell1 rfl _ _ _ _ _ _ rfl (((Zv0.set_ 0 _).set_ 1 _).set_ 2 _) Tryz.underlying82 (by kernel_rfl)) rfl ⟨k, t, kids, A', c', q, false, rfl, (((hS.setb (.inl (by omega)) _).setb (.inl (by omega)) _).setb (.inl (by omega)) _).more (by omega) (by simp), ((Rv0.farb hgr _).farb hgr _).farb hgr _, gr_setm (gr_setm (gr_setm Gv0 hwr _) hwr _) hwr _, hq, HE.out⟩
      · obtain ⟨hn9, hS⟩ := Av0.done
        have b0 : ((n : Int) == 0) = false := beq_eq_false_iff_ne.2 (by omega)
        have b1 : ((n : Int) == 1) = false := beq_eq_false_iff_ne.2 (by omega)
        have HV := Lib.hid (HE.out.trans (show cond false none (finP 4 (some (L, q))) = cond false none (some (((4, ⟨#[]⟩), mkFr L), q)) from by rw [fin_some (by rw [Av0.1]; omega), node_more (by rw [Av0.1]; exact h2)]))
        have z8 := Zv0.cell
        have zf8 := Zv0.frozen
        have r8 := Rv0.cell
        have rf8 := Rv0.frozen
        have hw8 := Zv0.lt
        clear Av0
        go_wp2_with fail
        subst hn9
        exact bodyPost_ret (res_cell1 rfl _ _ _ _ _ _ rfl (((Zv0.set_ 0 _).set_ 1 _).set_ 2 _) Tryz.underlying82 (by kernel_rfl)) rfl ⟨4, ⟨#[]⟩, mkFr L, A, c, q, false, rfl, (((hS.setb (.inl (by omega)) _).setb (.inl (by omega)) _).setb (.inl (by omega)) _).more (by omega) (by simp), ((Rv0.farb hgr _).farb hgr _).farb hgr _, gr_setm (gr_setm (gr_setm Gv0 hwr _) hwr _) hwr _, hq, HV.out⟩
    by_cases h1 : bA s q = 124
    · have hst : stopB true (bA s q) = true := by rw [h1]; rfl
      have HE := Lib.hid (show CF = cond false none (finP 4 (some (L, q))) from HI.out.trans (by rw [itemsP_stop hst]; rfl))
      clear hst HI
      have n0_ : (nx (bA s q) != 0) = true := by rw [h1]; rfl
      have n1_ : (nx (bA s q) != 124) = false := by rw [h1]; rfl
      generalize hnx : nx (bA s q) = y at n0_ n1_
      have NX := Lib.hid hnx
      clear hnx
      clear h1 h0
      go_wp2_with fail
      refine (iNext s d g q false _ hs Rr).mono ?_; rintro e v0 ⟨rfl, Rv0, hgv0⟩
      rw [NX.out]
      have Zv0 := Zr.grown hgv0 (by simp; omega)
      have Av0 := hA.grown hgv0 (by omega)
      have Gv0 := gr_trans Gr hgv0
      clear Rr Zr hA Gr hgv0
      go_wp2_with fail
      refine (iNext s d g q false _ hs Rv0).mono ?_; rintro e v1 ⟨rfl, Rv1, hgv1⟩
      rw [NX.out]
      have Zv1 := Zv0.grown hgv1 (by simp; omega)
      have Av1 := Av0.grown hgv1 (by omega)
      have Gv1 := gr_trans Gv0 hgv1
      clear Rv0 Zv0 Av0 Gv0 hgv1
      go_upto_region 4 with fail
      rcases (show n = 0 ∨ n = 1 ∨ 2 ≤ n by omega) with rfl | rfl | h2
      · have hL0 := List.eq_nil_of_length_eq_zero Av1.1
        subst hL0
        have z8 := Zv1.cell
        have zf8 := Zv1.frozen
        have r8 := Rv1.cell
        have rf8 := Rv1.frozen
        go_wp2_with fail
        have R9 := Rv1.set_ 3 (.bool true)
        simp only [List.setIfInBounds_toArray, List.set_cons_succ, List.set_cons_zero] at R9
        have Z9 := Zv1.farb (b := g) (j := 3) (by omega) (.bool true)
        have G9 := gr_own (j := 3) Gv1 (.bool true)
        exact bodyPost_ret (res_cell1 rfl _ _ _ _ _ _ rfl (((Z9.set_ 0 _).set_ 1 _).set_ 2 _) Tryz.underlying82 (by kernel_rfl)) rfl ⟨0, ⟨#[]⟩, .nil, none, 0, q, true, rfl, djNil _ _ _ _, ((R9.farb hgr _).farb hgr _).farb hgr _, gr_setm (gr_setm (gr_setm G9 hwr _) hwr _) hwr _, hq, HE.out.trans rfl⟩
      · obtain ⟨k, t, kids, ab, A', c', rfl, rfl, h3, h4, a0, a1, a2, hS⟩ := Av1.one
        have z8 := Zv1.cell
        have zf8 := Zv1.frozen
        have r8 := Rv1.cell
        have rf8 := Rv1.frozen
        have hw8 := Zv1.lt
        clear Av1
        go_wp2_with fail
        exact bodyPost_ret (res_cell1 rfl _ _ _ _ _ _ rfl (((Zv1.set_ 0 _).set_ 1 _).set_ 2 _) Tryz.underlying82 (by kernel_rfl)) rfl ⟨k, t, kids, A', c', q, false, rfl, (((hS.setb (.inl (by omega)) _).setb (.inl (by omega)) _).setb (.inl (by omega)) _).more (by omega) (by simp), ((Rv1.farb hgr _).farb hgr _).farb hgr _, gr_setm (gr_setm (gr_setm Gv1 hwr _) hwr _) hwr _, hq, HE.out⟩
      · obtain ⟨hn9, hS⟩ := Av1.done
        have b0 : ((n : Int) == 0) = false := beq_eq_false_iff_ne.2 (by omega)
        have b1 : ((n : Int) == 1) = false := beq_eq_false_iff_ne.2 (by omega)
        have HV := Lib.hid (HE.out.trans (show cond false none (finP 4 (some (L, q))) = cond false none (some (((4, ⟨#[]⟩), mkFr L), q)) from by rw [fin_some (by rw [Av1.1]; omega), node_more (by rw [Av1.1]; exact h2)]))
        have z8 := Zv1.cell
        have zf8 := Zv1.frozen
        have r8 := Rv1.cell
        have rf8 := Rv1.frozen
        have hw8 := Zv1.lt
        clear Av1
        go_wp2_with fail
        subst hn9
        exact bodyPost_ret (res_cell1 rfl _ _ _ _ _ _ rfl (((Zv1.set_ 0 _).set_ 1 _).set_ 2 _) Tryz.underlying82 (by kernel_rfl)) rfl ⟨4, ⟨#[]⟩, mkFr L, A, c, q, false, rfl, (((hS.setb (.inl (by omega)) _).setb (.inl (by omega)) _).setb (.inl (by omega)) _).more (by omega) (by simp), ((Rv1.farb hgr _).farb hgr _).farb hgr _, gr_setm (gr_setm (gr_setm Gv1 hwr _) hwr _) hwr _, hq, HV.out⟩
    by_cases h2 : bA s q = 41
    · have hst : stopB true (bA s q) = true := by rw [h2]; rfl
      have HE := Lib.hid (show CF = cond false none (finP 4 (some (L, q))) from HI.out.trans (by rw [itemsP_stop hst]; rfl))
      clear hst HI
      have n0_ : (nx (bA s q) != 0) = true := by rw [h2]; rfl
      have n1_ : (nx (bA s q) != 124) = true := by rw [h2]; rfl
      have n2_ : (nx (bA s q) != 41) = false := by rw [h2]; rfl
      generalize hnx : nx (bA s q) = y at n0_ n1_ n2_
      have NX := Lib.hid hnx
      clear hnx
      clear h2 h1 h0
      go_wp2_with fail
      refine (iNext s d g q false _ hs Rr).mono ?_; rintro e v0 ⟨rfl, Rv0, hgv0⟩
      rw [NX.out]
      have Zv0 := Zr.grown hgv0 (by simp; omega)
      have Av0 := hA.grown hgv0 (by omega)
      have Gv0 := gr_trans Gr hgv0
      clear Rr Zr hA Gr hgv0
      go_wp2_with fail
      refine (iNext s d g q false _ hs Rv0).mono ?_; rintro e v1 ⟨rfl, Rv1, hgv1⟩
      rw [NX.out]
      have Zv1 := Zv0.grown hgv1 (by simp; omega)
      have Av1 := Av0.grown hgv1 (by omega)
      have Gv1 := gr_trans Gv0 hgv1
      clear Rv0 Zv0 Av0 Gv0 hgv1
      go_wp2_with fail
      refine (iNext s d g q false _ hs Rv1).mono ?_; rintro e v2 ⟨rfl, Rv2, hgv2⟩
      rw [NX.out]
      have Zv2 := Zv1.grown hgv2 (by simp; omega)
      have Av2 := Av1.grown hgv2 (by omega)
      have Gv2 := gr_trans Gv1 hgv2
      clear Rv1 Zv1 Av1 Gv1 hgv2
      go_upto_region 4 with fail
      rcases (show n = 0 ∨ n = 1 ∨ 2 ≤ n by omega) with rfl | rfl | h2
      · have hL0 := List.eq_nil_of_length_eq_zero Av2.1
        subst hL0
        have z8 := Zv2.cell
        have zf8 := Zv2.frozen
        have r8 := Rv2.cell
        have rf8 := Rv2.frozen
        go_wp2_with fail
        have R9 := Rv2.set_ 3 (.bool true)
        simp only [List.setIfInBounds_toArray, List.set_cons_succ, List.set_cons_zero] at R9
        have Z9 := Zv2.farb (b := g) (j := 3) (by omega) (.bool true)
        have G9 := gr_own (j := 3) Gv2 (.bool true)
        exact bodyPost_ret (res_cell1 rfl _ _ _ _ _ _ rfl (((Z9.set_ 0 _).set_ 1 _).set_ 2 _) Tryz.underlying82 (by kernel_rfl)) rfl ⟨0, ⟨#[]⟩, .nil, none, 0, q, true, rfl, djNil _ _ _ _, ((R9.farb hgr _).farb hgr _).farb hgr _, gr_setm (gr_setm (gr_setm G9 hwr _) hwr _) hwr _, hq, HE.out.trans rfl⟩
      · obtain ⟨k, t, kids, ab, A', c', rfl, rfl, h3, h4, a0, a1, a2, hS⟩ := Av2.one
        have z8 := Zv2.cell
        have zf8 := Zv2.frozen
        have r8 := Rv2.cell
        have rf8 := Rv2.frozen
        have hw8 := Zv2.lt
        clear Av2
        go_wp2_with fail
        exact bodyPost_ret (res_cell1 rfl _ _ _ _ _ _ rfl (((Zv2.set_ 0 _).set_ 1 _).set_ 2 _) Tryz.underlying82 (by kernel_rfl)) rfl ⟨k, t, kids, A', c', q, false, rfl, (((hS.setb (.inl (by omega)) _).setb (.inl (by omega)) _).setb (.inl (by omega)) _).more (by omega) (by simp), ((Rv2.farb hgr _).farb hgr _).farb hgr _, gr_setm (gr_setm (gr_setm Gv2 hwr _) hwr _) hwr _, hq, HE.out⟩
      · obtain ⟨hn9, hS⟩ := Av2.done
        have b0 : ((n : Int) == 0) = false := beq_eq_false_iff_ne.2 (by omega)
        have b1 : ((n : Int) == 1) = false := beq_eq_false_iff_ne.2 (by omega)
        have HV := Lib.hid (HE.out.trans (show cond false none (finP 4 (some (L, q))) = cond false none (some (((4, ⟨#[]⟩), mkFr L), q)) from by rw [fin_some (by rw [Av2.1]; omega), node_more (by rw [Av2.1]; exact h2)]))
        have z8 := Zv2.cell
        have zf8 := Zv2.frozen
        have r8 := Rv2.cell
        have rf8 := Rv2.frozen
        have hw8 := Zv2.lt
        clear Av2
        go_wp2_with fail
        subst hn9
        exact bodyPost_ret (res_cell1 rfl _ _ _ _ _ _ rfl (((Zv2.set_ 0 _).set_ 1 _).set_ 2 _) Tryz.underlying82 (by kernel_rfl)) rfl ⟨4, ⟨#[]⟩, mkFr L, A, c, q, false, rfl, (((hS.setb (.inl (by omega)) _).setb (.inl (by omega)) _).setb (.inl (by omega)) _).more (by omega) (by simp), ((Rv2.farb hgr _).farb hgr _).farb hgr _, gr_setm (gr_setm (gr_setm Gv2 hwr _) hwr _) hwr _, hq, HV.out⟩
    have hst : stopB true (bA s q) = false := by unfold stopB; simp only [Bool.or_eq_false_iff, Bool.and_eq_false_iff, beq_eq_false_iff_ne]; exact ⟨⟨⟨h1, h2⟩, fun h => h0 (.inr h)⟩, .inr (fun h => h0 (.inl h))⟩
    have hqs : q < s.size := bA_lt (fun h => h0 (.inr h))
    have HN := Lib.hid (HI.out.trans (congrArg (finP 4) (itemsP_step hs hF hq hst)))
    clear hst HI
    have n0_ : (nx (bA s q) != 0) = true := by unfold nx; split <;> simp <;> omega
    have n1_ : (nx (bA s q) != 124) = true := by unfold nx; split <;> simp <;> omega
    have n2_ : (nx (bA s q) != 41) = true := by unfold nx; split <;> simp <;> omega
    generalize hnx : nx (bA s q) = y at n0_ n1_ n2_
    have NX := Lib.hid hnx
    clear hnx
    clear h2 h1 h0
    go_wp2_with fail
    refine (iNext s d g q false _ hs Rr).mono ?_; rintro e v0 ⟨rfl, Rv0, hgv0⟩
    rw [NX.out]
    have Zv0 := Zr.grown hgv0 (by simp; omega)
    have Av0 := hA.grown hgv0 (by omega)
    have Gv0 := gr_trans Gr hgv0
    clear Rr Zr hA Gr hgv0
    go_wp2_with fail
    refine (iNext s d g q false _ hs Rv0).mono ?_; rintro e v1 ⟨rfl, Rv1, hgv1⟩
    rw [NX.out]
    have Zv1 := Zv0.grown hgv1 (by simp; omega)
    have Av1 := Av0.grown hgv1 (by omega)
    have Gv1 := gr_trans Gv0 hgv1
    clear Rv0 Zv0 Av0 Gv0 hgv1
    go_wp2_with fail
    refine (iNext s d g q false _ hs Rv1).mono ?_; rintro e v2 ⟨rfl, Rv2, hgv2⟩
    rw [NX.out]
    have Zv2 := Zv1.grown hgv2 (by simp; omega)
    have Av2 := Av1.grown hgv2 (by omega)
    have Gv2 := gr_trans Gv1 hgv2
    clear Rv1 Zv1 Av1 Gv1 hgv2
    have hlt5 := Av2.lt
    have hh5 := Av2.hi_le
    have s4 := Zv2.lt
    go_wp2_with fail
    refine (IT.out _ q hqs Rv2).mono ?_; rintro e w5 ⟨k, t, kids, Ay, cy, q', bb, rfl, hS5, R5, hg5, hq', hX5⟩
    replace R5 : Blk w5 g 97 #[.string s, .int .i64 q', .int .i64 d, .bool bb] := R5
    have Z5 := Zv2.grown hg5 (by simp; omega)
    have A5 := Av2.grown hg5 (by omega)
    have G5 := gr_trans Gv2 hg5
    have s5 := hg5.size
    have HX := Lib.hid hX5
    clear hX5 Rv2 Zv2 Av2 hg5
    go_wp2_with (at_builtin; refine wpList_acc rfl _ _ 80 rfl (w.heap.size + 1) j0 Tryz.underlying80 hj hy0 hy1 hy2 A n c L rfl A5 k t kids Ay cy v2.heap.size rfl (by omega) (by omega) hS5 (by omega) hh5 ?_)
    intro A7 c7 w7 hA7 hg7
    have hk7 : ∀ k, (Value.slice A n c).ownBlock = some k → w.heap.size + 1 ≤ k := fun k hk => (hlt5 k hk).1
    have R7 := R5.grown hg7 (fun e => by have := hk7 _ e.symm; omega)
    have Z7 := Z5.grown hg7 (fun e => by have := hk7 _ e.symm; omega)
    have G7 := gr_push G5 hg7 (fun k e => by have := hk7 k e; omega)
    clear R5 Z5 A5 G5 hS5 hg7
    go_wp2_with fail
    go_roundw
    case rel =>
      refine ⟨L ++ [((k, t), kids)], A7, n + 1, c7, q', bb, rfl, hA7, R7, Z7, G7, hq', fun h => ?_, fun h => ?_⟩
      · subst h
        have hX := HX.out
        have hf := itemP_fwd hs hF q _ q' (by omega) hX
        exact ⟨by omega, HN.out.trans (by rw [hX]; rfl)⟩
      · subst h
        exact HN.out.trans (by rw [HX.out]; rfl)
    case measure => simp [lenV]; omega

end Go.Proofs.YtemlnpncljomgaaGreatDoor
