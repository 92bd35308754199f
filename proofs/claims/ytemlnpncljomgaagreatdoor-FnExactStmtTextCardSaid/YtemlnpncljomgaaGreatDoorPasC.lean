import Derived.Test.YtemlnpncljomgaaGreatDoorPasB
import Derived.Laws.IdiomStrings
namespace Go.Proofs.YtemlnpncljomgaaGreatDoor
open Go.RowKit

set_option maxRecDepth 20000 in
set_option maxHeartbeats 8000000 in
theorem sAtom (F : Nat → Option (Tr × Nat)) (s : ByteArray) (d d1 : Int) (g i : Nat) (w : World) (hs : s.size ≤ 1048576) (hd : d + 1 = d1) (hd0 : 0 ≤ d) (hd8 : d ≤ 8) (hz : 8 < d1 → ∀ i, F i = none) (hi0 : i ≤ s.size) (hB : Blk w g 91 #[.string s, .int .i64 i, .bool false, .int .i64 d])
    (ih : d1 ≤ 8 → ∀ (w : World) (i : Nat), i ≤ s.size → Blk w g 91 #[.string s, .int .i64 i, .bool false, .int .i64 d1] → Calls Tryz.prog 81 #[.pointer (some ⟨g, 0, none⟩)] w fun e w' => RetP (RS s d1 g) s.size (F i) g w e w') :
    Calls Tryz.prog 122 #[.pointer (some ⟨g, 0, none⟩)] w fun e w' => RetP (RS s d g) s.size (atomP F s i) g w e w' := by
  have GT := Lib.hid fun (w : World) (i : Nat) (hi : i ≤ s.size) (hB : Blk w g 91 #[.string s, .int .i64 i, .bool false, .int .i64 d]) => sGroup F s d d1 g i w hs hd hd0 hd8 hz hi hB ih
  clear ih hz hd
  generalize hAT : atomP F s i = AT
  have HAT := Lib.hid hAT.symm
  clear hAT
  have hgl := hB.lt
  have hgr : g ≠ w.heap.size := by omega
  have hwr := Nat.le_refl w.heap.size
  have R0 := hB.alloc (.cells #[.int .i64 0, .string ⟨#[]⟩, .slice none 0 0] 82)
  have Z0 := Blk.new w 82 #[.int .i64 0, .string ⟨#[]⟩, .slice none 0 0]
  have G0 := gr_alloc (gr_refl w (some g)) (.cells #[.int .i64 0, .string ⟨#[]⟩, .slice none 0 0] 82)
  have p0 := R0.cell
  have f0 := R0.frozen
  have s0 := Nat.le_of_eq (alloc_size w (.cells #[.int .i64 0, .string ⟨#[]⟩, .slice none 0 0] 82)).symm
  by_cases hi : i < s.size
  case' neg =>
    have hge : (s.size : Int) ≤ i := by omega
    have hX := Lib.hid (HAT.out.trans (show atomP F s i = none from atom_none (by rw [bA_out (by omega)]; rfl) (by rw [bA_out (by omega)]; decide) (by rw [bA_out (by omega)]; decide) (by rw [bA_out (by omega)]; decide) (by rw [bA_out (by omega)]; decide) (by rw [bA_out (by omega)]; decide)))
    go_enter Tryz.func122, Tryz.ntmps122
    go_upto_region 1 with fail
    generalize w.alloc (.cells #[.int .i64 0, .string ⟨#[]⟩, .slice none 0 0] 82) = w0 at R0 Z0 G0 p0 f0 s0 ⊢
    go_quiet (fail)
    go_wp2_with fail
    refine (sBad s d g i false _ (R0.drewN nq)).mono ?_; rintro e w9 ⟨rfl, R9, hg9⟩
    have Z9 := (Z0.drewN nq).grown hg9 (by simp; omega)
    have G9 := gr_trans (gr_drewN G0 nq) hg9
    have z9 := Z9.cell
    have zf9 := Z9.frozen
    go_wp2_with fail
    exact bodyPost_ret (res_cell1 rfl _ _ _ _ _ _ rfl (((Z9.set_ 0 _).set_ 1 _).set_ 2 _) Tryz.underlying82 (by kernel_rfl)) rfl ⟨0, ⟨#[]⟩, .nil, none, 0, i, true, rfl, djNil _ _ _ _, ⟨_, fun h => (by first | rfl | cases h), ((R9.farb hgr _).farb hgr _).farb hgr _⟩, gr_setm (gr_setm (gr_setm G9 hwr _) hwr _) hwr _, hi0, hX.out⟩
  have hlt : (i : Int) < s.size := by omega
  obtain ⟨c, hc, hc2, hcb⟩ : ∃ c : Nat, bA s i = c ∧ c < 256 ∧ s[i].toNat = c := ⟨_, rfl, by rw [bA_in hi]; exact s[i].toNat_lt, (bA_in hi).symm⟩
  have hx' : (s[i].toNat : Int) < 256 := by omega
  obtain ⟨j, hj⟩ : ∃ j : Nat, i + 1 = j := ⟨_, rfl⟩
  have ew : IntKind.i64.wrap ((i : Int) + 1) = (j : Int) := by rw [IntWalk.i64_in _ (by omega)]; omega
  have hjs : j ≤ s.size := by omega
  have HJ := Lib.hid hj
  clear hj
  go_enter Tryz.func122, Tryz.ntmps122
  go_upto_region 1 with fail
  generalize w.alloc (.cells #[.int .i64 0, .string ⟨#[]⟩, .slice none 0 0] 82) = w0 at R0 Z0 G0 p0 f0 s0 ⊢
  go_quiet (fail)
  have R1 := R0.drewN nq
  have Z1 := Z0.drewN nq
  have G1 := gr_drewN G0 nq
  have s1 : w.heap.size + 1 ≤ (w0.drewN nq).heap.size := s0
  generalize w0.drewN nq = w1 at R1 Z1 G1 s1 ⊢
  clear p0 f0 R0 Z0 G0 s0
  have p1 := R1.cell
  have f1 := R1.frozen
  go_wp2_with fail
  go_quiet (fail)
  have R2 := R1.drewN nq
  have Z2 := Z1.drewN nq
  have G2 := gr_drewN G1 nq
  have s2 : w.heap.size + 1 ≤ (w1.drewN nq).heap.size := s1
  generalize w1.drewN nq = w2 at R2 Z2 G2 s2 ⊢
  clear p1 f1 R1 Z1 G1 s1
  have p1 := R2.cell
  have f1 := R2.frozen
  go_upto_region 5 with fail
  have R3 := R2.set_ 1 (.int .i64 (j : Int))
  simp only [List.setIfInBounds_toArray, List.set_cons_succ, List.set_cons_zero] at R3
  have Z3 := Z2.farb (b := g) (j := 1) (by omega) (.int .i64 (j : Int))
  have G3 := gr_own (j := 1) G2 (.int .i64 (j : Int))
  have s3 : w.heap.size + 1 ≤ (w2.setCell ⟨g, 1, none⟩ (.int .i64 (j : Int))).heap.size := by simpa using s2
  generalize w2.setCell ⟨g, 1, none⟩ (.int .i64 (j : Int)) = w3 at R3 Z3 G3 s3 ⊢
  clear R2 Z2 G2 p1 f1 ew s2 hcb hx'
  have R2 := R3
  have Z2 := Z3
  have G2 := G3
  clear R3 Z3 G3
  have hg2 := R2.lt
  by_cases h46 : c = 46
  · have b46 : ((c : Int) == 46) = true := by simp [h46]
    have z2 := Z2.cell
    have zf2 := Z2.frozen
    go_wp2_with fail
    exact bodyPost_ret (res_cell1 rfl _ _ _ _ _ _ rfl (((Z2.set_ 0 _).set_ 1 _).set_ 2 _) Tryz.underlying82 (by kernel_rfl)) rfl ⟨2, ⟨#[]⟩, .nil, none, 0, j, false, rfl, djNil _ _ _ _, ⟨_, fun h => (by first | rfl | cases h), ((R2.farb hgr _).farb hgr _).farb hgr _⟩, gr_setm (gr_setm (gr_setm G2 hwr _) hwr _) hwr _, hjs, HAT.out.trans (by rw [atom_any (by rw [hc]; exact h46), HJ.out]; rfl)⟩
  have b46 : ((c : Int) == 46) = false := by simp; omega
  by_cases h94 : c = 94
  · have b94 : ((c : Int) == 94) = true := by simp [h94]
    have z2 := Z2.cell
    have zf2 := Z2.frozen
    go_wp2_with fail
    exact bodyPost_ret (res_cell1 rfl _ _ _ _ _ _ rfl (((Z2.set_ 0 _).set_ 1 _).set_ 2 _) Tryz.underlying82 (by kernel_rfl)) rfl ⟨10, ⟨#[]⟩, .nil, none, 0, j, false, rfl, djNil _ _ _ _, ⟨_, fun h => (by first | rfl | cases h), ((R2.farb hgr _).farb hgr _).farb hgr _⟩, gr_setm (gr_setm (gr_setm G2 hwr _) hwr _) hwr _, hjs, HAT.out.trans (by rw [atom_begin (by rw [hc]; exact h94), HJ.out]; rfl)⟩
  have b94 : ((c : Int) == 94) = false := by simp; omega
  by_cases h36 : c = 36
  · have b36 : ((c : Int) == 36) = true := by simp [h36]
    have z2 := Z2.cell
    have zf2 := Z2.frozen
    go_wp2_with fail
    exact bodyPost_ret (res_cell1 rfl _ _ _ _ _ _ rfl (((Z2.set_ 0 _).set_ 1 _).set_ 2 _) Tryz.underlying82 (by kernel_rfl)) rfl ⟨11, ⟨#[]⟩, .nil, none, 0, j, false, rfl, djNil _ _ _ _, ⟨_, fun h => (by first | rfl | cases h), ((R2.farb hgr _).farb hgr _).farb hgr _⟩, gr_setm (gr_setm (gr_setm G2 hwr _) hwr _) hwr _, hjs, HAT.out.trans (by rw [atom_end (by rw [hc]; exact h36), HJ.out]; rfl)⟩
  have b36 : ((c : Int) == 36) = false := by simp; omega
  by_cases h40 : c = 40
  · have b40 : ((c : Int) == 40) = true := by simp [h40]
    have HA := Lib.hid (HAT.out.trans ((atom_group (by rw [hc]; exact h40)).trans (congrArg (groupP F s) HJ.out)))
    go_wp2_with fail
    refine (GT.out _ j hjs R2).mono ?_; rintro e w4 ⟨k, t, kids, A, kc, q, bb, rfl, hS4, ⟨dd, hdd, R4⟩, hg4, hq, hX⟩
    have Z4 := Z2.grown hg4 (by simp; omega)
    have G4 := gr_trans G2 hg4
    have s4 := hg4.size
    have z4 := Z4.cell
    have zf4 := Z4.frozen
    have HX := Lib.hid hX
    have HD := Lib.hid hdd
    clear hX hdd
    go_wp2_with fail
    exact bodyPost_ret (res_cell1 rfl _ _ _ _ _ _ rfl (((Z4.set_ 0 _).set_ 1 _).set_ 2 _) Tryz.underlying82 (by kernel_rfl)) rfl ⟨k, t, kids, A, kc, q, bb, rfl, (((hS4.setb (.inl (by omega)) _).setb (.inl (by omega)) _).setb (.inl (by omega)) _).more (by omega) (by simp), ⟨dd, HD.out, ((R4.farb hgr _).farb hgr _).farb hgr _⟩, gr_setm (gr_setm (gr_setm G4 hwr _) hwr _) hwr _, hq, HA.out.trans HX.out⟩
  have b40 : ((c : Int) == 40) = false := by simp; omega
  have L1 := fun w => sLit c w (by omega) (by omega)
  have LC := Lib.hid L1
  clear L1
  cases hl : litB c
  case' true => simp only [hl] at LC
  case' false => simp only [hl] at LC
  case true =>
    have hxu : (UInt8.ofNat c).toNat = c := by rw [UInt8.toNat_ofNat']; omega
    have kc := run_convert_bytes_back (P := Tryz.prog) (w3.alloc (.cells #[.int .u8 (c : Int)] 5)) 60 9 5 ⟨w3.heap.size, 0, none⟩ 1 [UInt8.ofNat c] Tryz.underlying60 Tryz.underlying5 Tryz.underlying9 (fun j hj => by
      obtain rfl : j = 0 := by simpa using hj
      rw [add_plain, List.getElem_cons_zero, hxu]
      exact (Blk.new w3 5 #[.int .u8 (c : Int)]).cell 0)
    have kc2 : (convert 60 9 (.slice (some ⟨w3.heap.size, 0, none⟩) 1 1)).run Tryz.prog (w3.alloc (.cells #[.int .u8 (c : Int)] 5)) = .ok (.string ⟨#[UInt8.ofNat c]⟩) (w3.alloc (.cells #[.int .u8 (c : Int)] 5)) := kc
    clear kc
    have z2 := Z2.cell
    have zf2 := Z2.frozen
    have hz2 := Z2.lt
    go_wp2_with fail
    refine (LC.out _).mono ?_; rintro e w4 ⟨rfl, rfl⟩
    go_wp2_with fail
    exact bodyPost_ret (res_cell1 rfl _ _ _ _ _ _ rfl ((((Z2.set_ 0 _).set_ 1 _).set_ 2 _).alloc _) Tryz.underlying82 (by kernel_rfl)) rfl ⟨1, ⟨#[UInt8.ofNat c]⟩, .nil, none, 0, j, false, rfl, djNil _ _ _ _, ⟨_, fun h => rfl, (((R2.farb hgr _).farb hgr _).farb hgr _).alloc _⟩, gr_alloc (gr_setm (gr_setm (gr_setm G2 hwr _) hwr _) hwr _) _, hjs, HAT.out.trans (by rw [atom_lit (by rw [hc]; exact hl), hc, HJ.out]; rfl)⟩
  by_cases h91 : c = 91
  case' neg =>
    have b91 : ((c : Int) != 91) = true := by rw [bne_iff_ne]; omega
    have hX := Lib.hid (HAT.out.trans (atom_none (by rw [hc]; exact hl) (by omega) (by omega) (by omega) (by omega) (by omega)))
    go_wp2_with fail
    refine (LC.out _).mono ?_; rintro e w4 ⟨rfl, rfl⟩
    go_wp2_with fail
    refine (sBad s d g j false _ R2).mono ?_; rintro e w9 ⟨rfl, R9, hg9⟩
    have Z9 := Z2.grown hg9 (by simp; omega)
    have G9 := gr_trans G2 hg9
    have z9 := Z9.cell
    have zf9 := Z9.frozen
    go_wp2_with fail
    exact bodyPost_ret (res_cell1 rfl _ _ _ _ _ _ rfl (((Z9.set_ 0 _).set_ 1 _).set_ 2 _) Tryz.underlying82 (by kernel_rfl)) rfl ⟨0, ⟨#[]⟩, .nil, none, 0, j, true, rfl, djNil _ _ _ _, ⟨_, fun h => (by first | rfl | cases h), ((R9.farb hgr _).farb hgr _).farb hgr _⟩, gr_setm (gr_setm (gr_setm G9 hwr _) hwr _) hwr _, hjs, hX.out⟩
  have b91 : ((c : Int) != 91) = false := by simp [h91]
  have HA := Lib.hid (HAT.out.trans ((atom_set (by rw [hc]; exact h91)).trans (congrArg (setP s) HJ.out)))
  clear h91 HAT
  have p2 := R2.cell
  go_wp2_with fail
  refine (LC.out _).mono ?_; rintro e w4 ⟨rfl, rfl⟩
  go_wp2_with fail
  go_loopg [] (s.size - j) (fun gh wr => ∃ q : Nat, gh = s.size - q ∧ j ≤ q ∧ q ≤ s.size ∧ (∀ m, j ≤ m → m < q → bA s m ≠ 93) ∧ Blk wr g 91 #[.string s, .int .i64 q, .bool false, .int .i64 d] ∧ w4.grownBy wr (some g))
  case atStart => exact ⟨j, rfl, Nat.le_refl _, hjs, fun m h1 h2 => absurd h2 (by omega), R2, gr_refl _ _⟩
  case round =>
    obtain ⟨q, rfl, hjq, hqs, hno, Rr, hgw⟩ := hrel
    have pr := Rr.cell
    have fr := Rr.frozen
    have hlr := Rr.lt
    by_cases hq : q < s.size ∧ bA s q ≠ 93
    · obtain ⟨hq1, hq2⟩ := hq
      have hlt2 : (q : Int) < s.size := by omega
      have hne : ((s[q].toNat : Int) != 93) = true := by rw [bA_in hq1] at hq2; rw [bne_iff_ne]; omega
      have hxq := s[q].toNat_lt
      have hx' : (s[q].toNat : Int) < 256 := by omega
      obtain ⟨q1, hq1'⟩ : ∃ q1 : Nat, q + 1 = q1 := ⟨_, rfl⟩
      have ew : IntKind.i64.wrap ((q : Int) + 1) = (q1 : Int) := by rw [IntWalk.i64_in _ (by omega)]; omega
      have hno1 : ∀ m, j ≤ m → m < q1 → bA s m ≠ 93 := fun m h1 h2 => by
        rcases Nat.lt_or_ge m q with h | h
        · exact hno m h1 h
        · rw [show m = q by omega]; exact hq2
      have HNO := Lib.hid hno1
      have ha : j ≤ q1 := by omega
      have hb : q1 ≤ s.size := by omega
      have hc9 : s.size - q1 < s.size - q := by omega
      clear hno hno1 hq2 hq1'
      go_wp2_with fail
      go_quiet (fail)
      go_wp2_with fail
      have R9 := (Rr.drewN nq).set_ 1 (.int .i64 (q1 : Int))
      simp only [List.setIfInBounds_toArray, List.set_cons_succ, List.set_cons_zero] at R9
      go_roundg (s.size - q1)
      case rel => exact ⟨q1, rfl, ha, hb, HNO.out, R9, gr_own (gr_drewN hgw nq) _⟩
      case measure => exact hc9
    · have hsk : skB s j = q := skB_uniq hjq hqs hno (fun h => by
        rcases Classical.em (bA s q = 93) with h1 | h1
        · exact h1
        · exact absurd ⟨h, h1⟩ hq)
      have HS := Lib.hid hsk
      have Zr := Z2.grown hgw (by simp; omega)
      have Gr := gr_trans G2 hgw
      have sr := hgw.size
      clear hsk hno
      have hjq' : (j : Int) ≤ (q : Int) := by omega
      have hqs' : (q : Int) ≤ (s.size : Int) := by omega
      have hgd : (q < s.size ∧ bA s q = 93) ∨ q = s.size := by
        by_cases h : q < s.size
        · exact .inl ⟨h, Classical.byContradiction fun h1 => hq ⟨h, h1⟩⟩
        · exact .inr (by omega)
      clear hq
      have hg3 : g ≠ wr.heap.size := by omega
      have hz3 : w.heap.size ≠ wr.heap.size := by omega
      have hsr := Gr.size
      rcases hgd with ⟨hq1, hq2⟩ | hq2
      · have hlt2 : (q : Int) < s.size := by omega
        have hC := hq2
        rw [bA_in hq1] at hq2
        have hne : ((s[q].toNat : Int) != 93) = false := by simp; omega
        have hxq := s[q].toNat_lt
        have hx' : (s[q].toNat : Int) < 256 := by omega
        clear hq2
        obtain ⟨q1, hq1'⟩ : ∃ q1 : Nat, q + 1 = q1 := ⟨_, rfl⟩
        have hq1s : q1 ≤ s.size := by omega
        have CY := Lib.hid fun w hB => sIsYes s d g q 93 w hs (by omega) (by omega) q1 hq1' hB
        have HQ1 := Lib.hid hq1'
        clear hC hq1'
        go_wp2_with fail
        go_quiet (fail)
        go_upto_region 20 with fail
        refine wp_region_held_drew (S := fun x : World => Blk x g 91 #[.string s, .int .i64 q, .bool false, .int .i64 d]) (by kernel_rfl) ?_ (fun hHeld => ?_)
        · exact (Rr.drewN nq).drew
        refine wpAnyH_take (i := 0) (oi := ⟨some 102, _, _, _, _, _⟩) (v := ?_) rfl (by kernel_rfl) (by kernel_rfl) (by kernel_rfl) (fun _ _ _ h => h) (Or.inl ⟨by rfl, ?_⟩) (by assumption) ?_
        case refine_2 => (intro w hSw; skip; go_simp; first | done | with_reducible rfl)
        simp only [Act.put, qA, qB, qC]
        refine wpAnyH_take (i := 1) (oi := ⟨some 103, _, _, _, _, _⟩) (v := ?_) rfl (by kernel_rfl) (by kernel_rfl) (by kernel_rfl) (fun _ _ _ h => h) (Or.inl ⟨by rfl, ?_⟩) (by assumption) ?_
        case refine_2 => (intro w hSw; skip; go_simp; first | done | with_reducible rfl)
        simp only [Act.put, qA, qB, qC]
        refine wpAnyH_take (i := 2) (oi := ⟨some 104, _, _, _, _, _⟩) (v := ?_) rfl (by kernel_rfl) (by kernel_rfl) (by kernel_rfl) (fun _ _ _ h => h) (Or.inl ⟨by rfl, ?_⟩) (by assumption) ?_
        case refine_2 => (intro w hSw; skip; go_simp; first | done | with_reducible rfl)
        simp only [Act.put, qA, qB, qC]
        refine wpAnyH_take (i := 3) (oi := ⟨some 105, _, _, _, _, _⟩) (v := ?_) rfl (by kernel_rfl) (by kernel_rfl) (by kernel_rfl) (fun _ _ _ h => h) (Or.inl ⟨by rfl, ?_⟩) (by assumption) ?_
        case refine_2 => (intro w hSw; have p := hSw.cell; go_simp; first | done | with_reducible rfl)
        simp only [Act.put, qA, qB, qC]
        refine wpAnyH_take (i := 4) (oi := ⟨some 106, _, _, _, _, _⟩) (v := ?_) rfl (by kernel_rfl) (by kernel_rfl) (by kernel_rfl) (fun _ _ _ h => h) (Or.inl ⟨by rfl, ?_⟩) (by assumption) ?_
        case refine_2 => (intro w hSw; skip; go_simp; first | done | with_reducible rfl)
        simp only [Act.put, qA, qB, qC]
        refine wpAnyH_take (i := 5) (oi := ⟨some 107, _, _, _, _, _⟩) (v := ?_) rfl (by kernel_rfl) (by kernel_rfl) (by kernel_rfl) (fun _ _ _ h => h) (Or.inl ⟨by rfl, ?_⟩) (by assumption) ?_
        case refine_2 => (intro w hSw; skip; go_simp; first | done | with_reducible rfl)
        simp only [Act.put, qA, qB, qC]
        refine wpAnyH_take (i := 6) (oi := ⟨some 108, _, _, _, _, _⟩) (v := ?_) rfl (by kernel_rfl) (by kernel_rfl) (by kernel_rfl) (fun _ _ _ h => h) (Or.inl ⟨by rfl, ?_⟩) (by assumption) ?_
        case refine_2 => (intro w hSw; skip; go_simp; first | done | with_reducible rfl)
        simp only [Act.put, qA, qB, qC]
        refine wpAnyH_take (i := 7) (oi := ⟨some 109, _, _, _, _, _⟩) (v := ?_) rfl (by kernel_rfl) (by kernel_rfl) (by kernel_rfl) (fun _ _ _ h => h) (Or.inl ⟨by rfl, ?_⟩) (by assumption) ?_
        case refine_2 => (intro w hSw; skip; go_simp; first | done | with_reducible rfl)
        simp only [Act.put, qA, qB, qC]
        refine wpAnyH_take (i := 8) (oi := ⟨some 110, _, _, _, _, _⟩) (v := ?_) rfl (by kernel_rfl) (by kernel_rfl) (by kernel_rfl) (fun _ _ _ h => h) (Or.inl ⟨by rfl, ?_⟩) (by assumption) ?_
        case refine_2 => (intro w hSw; have p := hSw.cell; go_simp; first | done | with_reducible rfl)
        simp only [Act.put, qA, qB, qC]
        refine wpAnyH_take (i := 9) (oi := ⟨some 111, _, _, _, _, _⟩) (v := ?_) rfl (by kernel_rfl) (by kernel_rfl) (by kernel_rfl) (fun _ _ _ h => h) (Or.inl ⟨by rfl, ?_⟩) (by assumption) ?_
        case refine_2 => (intro w hSw; skip; go_simp; first | done | with_reducible rfl)
        simp only [Act.put, qA, qB, qC]
        refine wpAnyH_take (i := 10) (oi := ⟨some 112, _, _, _, _, _⟩) (v := ?_) rfl (by kernel_rfl) (by kernel_rfl) (by kernel_rfl) (fun _ _ _ h => h) (Or.inl ⟨by rfl, ?_⟩) (by assumption) ?_
        case refine_2 => (intro w hSw; skip; go_simp; first | done | with_reducible rfl)
        simp only [Act.put, qA, qB, qC]
        refine wpAnyH_ready (rs := [11]) (by kernel_rfl) (by simp) ?_
        refine AllReadyH.cons (o := ⟨some 5, _, _, _, _, _⟩) rfl (fun K hK => ?_) AllReadyH.nil
        go_simp
        go_wp2_with fail
        refine hK.out _ _ ((Rr.drewN nq).drew.alloc _) (fun hHeld => ?_)
        clear hK K
        try simp only [Act.put, qA, qB, qC]
        have fz := (Blk.new (wr.drewN (nq + 1)) 82 #[.int .i64 0, .string ⟨#[]⟩, .slice none 0 0]).frozen
        have cz := (Blk.new (wr.drewN (nq + 1)) 82 #[.int .i64 0, .string ⟨#[]⟩, .slice none 0 0]).cell
        change ∀ i, World.frozen? _ ⟨wr.heap.size, i, none⟩ = _ at fz
        change ∀ i, World.cell? _ ⟨wr.heap.size, i, none⟩ = _ at cz
        refine wpAnyH_ready (rs := [12]) (by kernel_rfl) (by simp) ?_
        refine AllReadyH.cons (o := ⟨none, _, _, _, _, _⟩) rfl (fun K hK => ?_) AllReadyH.nil
        go_simp
        go_wp2_with fail
        refine hK.out _ _ (((((Rr.drewN nq).drew.alloc _).farb hg3 _).farb hg3 _).farb hg3 _) (fun hHeld => ?_)
        clear hK K
        try simp only [Act.put, qA, qB, qC]
        refine wpAnyH_done (by kernel_rfl) ?_ _
        go_upto_region 21 with fail
        have N4 : Blk (((((wr.drewN (nq + 1)).alloc (.cells #[.int .i64 0, .string ⟨#[]⟩, .slice none 0 0] 82)).setCell ⟨wr.heap.size, 0, none⟩ (.int .i64 3)).setCell ⟨wr.heap.size, 1, none⟩ (.string (s.extract j q))).setCell ⟨wr.heap.size, 2, none⟩ (.slice none 0 0)) wr.heap.size 82 #[.int .i64 3, (.string (s.extract j q)), .slice none 0 0] := (((Blk.new (wr.drewN (nq + 1)) 82 #[.int .i64 0, .string ⟨#[]⟩, .slice none 0 0]).set_ 0 (.int .i64 3)).set_ 1 (.string (s.extract j q))).set_ 2 (.slice none 0 0)
        have R4 := ((((Rr.drewN (nq + 1)).alloc (.cells #[.int .i64 0, .string ⟨#[]⟩, .slice none 0 0] 82)).farb (b := wr.heap.size) (j := 0) hg3 (.int .i64 3)).farb (b := wr.heap.size) (j := 1) hg3 (.string (s.extract j q))).farb (b := wr.heap.size) (j := 2) hg3 (.slice none 0 0)
        have Z4 := ((((Zr.drewN (nq + 1)).alloc (.cells #[.int .i64 0, .string ⟨#[]⟩, .slice none 0 0] 82)).farb (b := wr.heap.size) (j := 0) hz3 (.int .i64 3)).farb (b := wr.heap.size) (j := 1) hz3 (.string (s.extract j q))).farb (b := wr.heap.size) (j := 2) hz3 (.slice none 0 0)
        have G4 := gr_setm (b := wr.heap.size) (j := 2) (gr_setm (b := wr.heap.size) (j := 1) (gr_setm (b := wr.heap.size) (j := 0) (gr_alloc (gr_drewN Gr (nq + 1)) (.cells #[.int .i64 0, .string ⟨#[]⟩, .slice none 0 0] 82)) hsr (.int .i64 3)) hsr (.string (s.extract j q))) hsr (.slice none 0 0)
        change w.grownBy (((((wr.drewN (nq + 1)).alloc (.cells #[.int .i64 0, .string ⟨#[]⟩, .slice none 0 0] 82)).setCell ⟨wr.heap.size, 0, none⟩ (.int .i64 3)).setCell ⟨wr.heap.size, 1, none⟩ (.string (s.extract j q))).setCell ⟨wr.heap.size, 2, none⟩ (.slice none 0 0)) (some g) at G4
        generalize ((((wr.drewN (nq + 1)).alloc (.cells #[.int .i64 0, .string ⟨#[]⟩, .slice none 0 0] 82)).setCell ⟨wr.heap.size, 0, none⟩ (.int .i64 3)).setCell ⟨wr.heap.size, 1, none⟩ (.string (s.extract j q))).setCell ⟨wr.heap.size, 2, none⟩ (.slice none 0 0) = w5 at N4 R4 Z4 G4 ⊢
        generalize wr.heap.size = nb at *
        clear fz cz
        go_wp2_with fail
        refine (CY.out _ R4).mono ?_; rintro e w6 ⟨rfl, R6, hg6⟩
        have Z6 := Z4.grown hg6 (by simp; omega)
        have N6 := N4.grown hg6 (by simp; omega)
        have G6 := gr_trans G4 hg6
        have z6 := Z6.cell
        have zf6 := Z6.frozen
        have n6 := N6.cell
        go_wp2_with fail
        exact bodyPost_ret (res_cell1 rfl _ _ _ _ _ _ rfl (((Z6.set_ 0 _).set_ 1 _).set_ 2 _) Tryz.underlying82 (by kernel_rfl)) rfl ⟨3, s.extract j q, .nil, none, 0, q1, false, rfl, djNil _ _ _ _, ⟨_, fun h => (by first | rfl | cases h), ((R6.farb hgr _).farb hgr _).farb hgr _⟩, gr_setm (gr_setm (gr_setm G6 hwr _) hwr _) hwr _, hq1s, HA.out.trans (by rw [set_some (by rw [HS.out]; exact hq1), HS.out, HQ1.out]; rfl)⟩
      · have hge : (s.size : Int) ≤ q := by omega
        have hnl : ¬ q < s.size := by omega
        have hdl : decide ((q : Int) < (s.size : Int)) = false := by simp; omega
        have HN := Lib.hid (HA.out.trans (set_none (by rw [HS.out]; omega)))
        have CN := Lib.hid fun w hB => sIsNo s d g q 93 w hs (by rw [bA_out (by omega)]; decide) hB
        clear hq2
        go_wp2_with fail
        go_quiet (fail)
        go_upto_region 20 with fail
        refine wp_region_held_drew (S := fun x : World => Blk x g 91 #[.string s, .int .i64 q, .bool false, .int .i64 d]) (by kernel_rfl) ?_ (fun hHeld => ?_)
        · exact (Rr.drewN nq).drew
        refine wpAnyH_take (i := 0) (oi := ⟨some 102, _, _, _, _, _⟩) (v := ?_) rfl (by kernel_rfl) (by kernel_rfl) (by kernel_rfl) (fun _ _ _ h => h) (Or.inl ⟨by rfl, ?_⟩) (by assumption) ?_
        case refine_2 => (intro w hSw; skip; go_simp; first | done | with_reducible rfl)
        simp only [Act.put, qA, qB, qC]
        refine wpAnyH_take (i := 1) (oi := ⟨some 103, _, _, _, _, _⟩) (v := ?_) rfl (by kernel_rfl) (by kernel_rfl) (by kernel_rfl) (fun _ _ _ h => h) (Or.inl ⟨by rfl, ?_⟩) (by assumption) ?_
        case refine_2 => (intro w hSw; skip; go_simp; first | done | with_reducible rfl)
        simp only [Act.put, qA, qB, qC]
        refine wpAnyH_take (i := 2) (oi := ⟨some 104, _, _, _, _, _⟩) (v := ?_) rfl (by kernel_rfl) (by kernel_rfl) (by kernel_rfl) (fun _ _ _ h => h) (Or.inl ⟨by rfl, ?_⟩) (by assumption) ?_
        case refine_2 => (intro w hSw; skip; go_simp; first | done | with_reducible rfl)
        simp only [Act.put, qA, qB, qC]
        refine wpAnyH_take (i := 3) (oi := ⟨some 105, _, _, _, _, _⟩) (v := ?_) rfl (by kernel_rfl) (by kernel_rfl) (by kernel_rfl) (fun _ _ _ h => h) (Or.inl ⟨by rfl, ?_⟩) (by assumption) ?_
        case refine_2 => (intro w hSw; have p := hSw.cell; go_simp; first | done | with_reducible rfl)
        simp only [Act.put, qA, qB, qC]
        refine wpAnyH_take (i := 4) (oi := ⟨some 106, _, _, _, _, _⟩) (v := ?_) rfl (by kernel_rfl) (by kernel_rfl) (by kernel_rfl) (fun _ _ _ h => h) (Or.inl ⟨by rfl, ?_⟩) (by assumption) ?_
        case refine_2 => (intro w hSw; skip; go_simp; first | done | with_reducible rfl)
        simp only [Act.put, qA, qB, qC]
        refine wpAnyH_take (i := 5) (oi := ⟨some 107, _, _, _, _, _⟩) (v := ?_) rfl (by kernel_rfl) (by kernel_rfl) (by kernel_rfl) (fun _ _ _ h => h) (Or.inl ⟨by rfl, ?_⟩) (by assumption) ?_
        case refine_2 => (intro w hSw; skip; go_simp; first | done | with_reducible rfl)
        simp only [Act.put, qA, qB, qC]
        refine wpAnyH_take (i := 6) (oi := ⟨some 108, _, _, _, _, _⟩) (v := ?_) rfl (by kernel_rfl) (by kernel_rfl) (by kernel_rfl) (fun _ _ _ h => h) (Or.inl ⟨by rfl, ?_⟩) (by assumption) ?_
        case refine_2 => (intro w hSw; skip; go_simp; first | done | with_reducible rfl)
        simp only [Act.put, qA, qB, qC]
        refine wpAnyH_take (i := 7) (oi := ⟨some 109, _, _, _, _, _⟩) (v := ?_) rfl (by kernel_rfl) (by kernel_rfl) (by kernel_rfl) (fun _ _ _ h => h) (Or.inl ⟨by rfl, ?_⟩) (by assumption) ?_
        case refine_2 => (intro w hSw; skip; go_simp; first | done | with_reducible rfl)
        simp only [Act.put, qA, qB, qC]
        refine wpAnyH_take (i := 8) (oi := ⟨some 110, _, _, _, _, _⟩) (v := ?_) rfl (by kernel_rfl) (by kernel_rfl) (by kernel_rfl) (fun _ _ _ h => h) (Or.inl ⟨by rfl, ?_⟩) (by assumption) ?_
        case refine_2 => (intro w hSw; have p := hSw.cell; go_simp; first | done | with_reducible rfl)
        simp only [Act.put, qA, qB, qC]
        refine wpAnyH_take (i := 9) (oi := ⟨some 111, _, _, _, _, _⟩) (v := ?_) rfl (by kernel_rfl) (by kernel_rfl) (by kernel_rfl) (fun _ _ _ h => h) (Or.inl ⟨by rfl, ?_⟩) (by assumption) ?_
        case refine_2 => (intro w hSw; skip; go_simp; first | done | with_reducible rfl)
        simp only [Act.put, qA, qB, qC]
        refine wpAnyH_take (i := 10) (oi := ⟨some 112, _, _, _, _, _⟩) (v := ?_) rfl (by kernel_rfl) (by kernel_rfl) (by kernel_rfl) (fun _ _ _ h => h) (Or.inl ⟨by rfl, ?_⟩) (by assumption) ?_
        case refine_2 => (intro w hSw; skip; go_simp; first | done | with_reducible rfl)
        simp only [Act.put, qA, qB, qC]
        refine wpAnyH_ready (rs := [11]) (by kernel_rfl) (by simp) ?_
        refine AllReadyH.cons (o := ⟨some 5, _, _, _, _, _⟩) rfl (fun K hK => ?_) AllReadyH.nil
        go_simp
        go_wp2_with fail
        refine hK.out _ _ ((Rr.drewN nq).drew.alloc _) (fun hHeld => ?_)
        clear hK K
        try simp only [Act.put, qA, qB, qC]
        have fz := (Blk.new (wr.drewN (nq + 1)) 82 #[.int .i64 0, .string ⟨#[]⟩, .slice none 0 0]).frozen
        have cz := (Blk.new (wr.drewN (nq + 1)) 82 #[.int .i64 0, .string ⟨#[]⟩, .slice none 0 0]).cell
        change ∀ i, World.frozen? _ ⟨wr.heap.size, i, none⟩ = _ at fz
        change ∀ i, World.cell? _ ⟨wr.heap.size, i, none⟩ = _ at cz
        refine wpAnyH_ready (rs := [12]) (by kernel_rfl) (by simp) ?_
        refine AllReadyH.cons (o := ⟨none, _, _, _, _, _⟩) rfl (fun K hK => ?_) AllReadyH.nil
        go_simp
        go_wp2_with fail
        refine hK.out _ _ (((((Rr.drewN nq).drew.alloc _).farb hg3 _).farb hg3 _).farb hg3 _) (fun hHeld => ?_)
        clear hK K
        try simp only [Act.put, qA, qB, qC]
        refine wpAnyH_done (by kernel_rfl) ?_ _
        go_upto_region 21 with fail
        have N4 : Blk (((((wr.drewN (nq + 1)).alloc (.cells #[.int .i64 0, .string ⟨#[]⟩, .slice none 0 0] 82)).setCell ⟨wr.heap.size, 0, none⟩ (.int .i64 3)).setCell ⟨wr.heap.size, 1, none⟩ (.string (s.extract j q))).setCell ⟨wr.heap.size, 2, none⟩ (.slice none 0 0)) wr.heap.size 82 #[.int .i64 3, (.string (s.extract j q)), .slice none 0 0] := (((Blk.new (wr.drewN (nq + 1)) 82 #[.int .i64 0, .string ⟨#[]⟩, .slice none 0 0]).set_ 0 (.int .i64 3)).set_ 1 (.string (s.extract j q))).set_ 2 (.slice none 0 0)
        have R4 := ((((Rr.drewN (nq + 1)).alloc (.cells #[.int .i64 0, .string ⟨#[]⟩, .slice none 0 0] 82)).farb (b := wr.heap.size) (j := 0) hg3 (.int .i64 3)).farb (b := wr.heap.size) (j := 1) hg3 (.string (s.extract j q))).farb (b := wr.heap.size) (j := 2) hg3 (.slice none 0 0)
        have Z4 := ((((Zr.drewN (nq + 1)).alloc (.cells #[.int .i64 0, .string ⟨#[]⟩, .slice none 0 0] 82)).farb (b := wr.heap.size) (j := 0) hz3 (.int .i64 3)).farb (b := wr.heap.size) (j := 1) hz3 (.string (s.extract j q))).farb (b := wr.heap.size) (j := 2) hz3 (.slice none 0 0)
        have G4 := gr_setm (b := wr.heap.size) (j := 2) (gr_setm (b := wr.heap.size) (j := 1) (gr_setm (b := wr.heap.size) (j := 0) (gr_alloc (gr_drewN Gr (nq + 1)) (.cells #[.int .i64 0, .string ⟨#[]⟩, .slice none 0 0] 82)) hsr (.int .i64 3)) hsr (.string (s.extract j q))) hsr (.slice none 0 0)
        change w.grownBy (((((wr.drewN (nq + 1)).alloc (.cells #[.int .i64 0, .string ⟨#[]⟩, .slice none 0 0] 82)).setCell ⟨wr.heap.size, 0, none⟩ (.int .i64 3)).setCell ⟨wr.heap.size, 1, none⟩ (.string (s.extract j q))).setCell ⟨wr.heap.size, 2, none⟩ (.slice none 0 0)) (some g) at G4
        generalize ((((wr.drewN (nq + 1)).alloc (.cells #[.int .i64 0, .string ⟨#[]⟩, .slice none 0 0] 82)).setCell ⟨wr.heap.size, 0, none⟩ (.int .i64 3)).setCell ⟨wr.heap.size, 1, none⟩ (.string (s.extract j q))).setCell ⟨wr.heap.size, 2, none⟩ (.slice none 0 0) = w5 at N4 R4 Z4 G4 ⊢
        generalize wr.heap.size = nb at *
        clear fz cz
        go_wp2_with fail
        refine (CN.out _ R4).mono ?_; rintro e w6 ⟨rfl, R6, hg6⟩
        have Z6 := Z4.grown hg6 (by simp; omega)
        have G6 := gr_trans G4 hg6
        have s6 := hg6.size
        go_wp2_with fail
        refine (sBad s d g q false _ R6).mono ?_; rintro e w9 ⟨rfl, R9, hg9⟩
        have Z9 := Z6.grown hg9 (by simp; omega)
        have G9 := gr_trans G6 hg9
        have z9 := Z9.cell
        have zf9 := Z9.frozen
        go_wp2_with fail
        exact bodyPost_ret (res_cell1 rfl _ _ _ _ _ _ rfl (((Z9.set_ 0 _).set_ 1 _).set_ 2 _) Tryz.underlying82 (by kernel_rfl)) rfl ⟨0, ⟨#[]⟩, .nil, none, 0, q, true, rfl, djNil _ _ _ _, ⟨_, fun h => (by first | rfl | cases h), ((R9.farb hgr _).farb hgr _).farb hgr _⟩, gr_setm (gr_setm (gr_setm G9 hwr _) hwr _) hwr _, hqs, HN.out⟩

end Go.Proofs.YtemlnpncljomgaaGreatDoor
