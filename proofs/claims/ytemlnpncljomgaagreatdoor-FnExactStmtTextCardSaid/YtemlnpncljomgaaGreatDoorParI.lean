import Derived.Test.YtemlnpncljomgaaGreatDoorParW
import Derived.Test.YtemlnpncljomgaaGreatDoorRexOk
import Derived.Deep.CutRange
import Derived.BigGuard
namespace Go.Proofs.YtemlnpncljomgaaGreatDoor
open Go.RowKit

set_option maxRecDepth 100000 in
theorem lit_enc : ∀ c : Nat, c < 256 → litB c = true → Utf8.encode c = ⟨#[c.toUInt8]⟩ := by decide
def RI (s : ByteArray) (d : Int) (g : Nat) (w : World) (q : Nat) (b : Bool) : Prop := Blk w g 97 #[.string s, .int .i64 q, .int .i64 d, .bool b]
set_option maxRecDepth 20000 in
set_option maxHeartbeats 1000000 in
theorem iNext (s : ByteArray) (d : Int) (g i : Nat) (b : Bool) (w : World) (_hs : s.size ≤ 1048576) (hB : Blk w g 97 #[.string s, .int .i64 i, .int .i64 d, .bool b]) :
    Calls Tryz.prog 100 #[.pointer (some ⟨g, 0, none⟩)] w fun e w' => e = .returned (.int .u8 (nx (bA s i))) ∧ Blk w' g 97 #[.string s, .int .i64 i, .int .i64 d, .bool b] ∧ w.grownBy w' (some g) := by
  have c0 := hB.cell
  have f0 := hB.frozen
  by_cases h : i < s.size
  · have hx := s[i].toNat_lt
    have hx' : (s[i].toNat : Int) < 256 := by omega
    have hlt : (i : Int) < s.size := by omega
    have hE := Lib.hid (show (s[i].toNat : Int) = nx (bA s i) by unfold nx; rw [bA_in h, if_neg (by omega)])
    go_enter Tryz.func100, Tryz.ntmps100
    go_wp2_with fail
    go_quiet (fail)
    go_wp2_with fail
    go_quiet (fail)
    go_wp2_with fail
    go_ret
    exact ⟨ret_int hE.out, hB, gr_drewN (gr_drewN (gr_refl _ _) _) _⟩
  · have hge : (s.size : Int) ≤ i := by omega
    have hE := Lib.hid (show (0 : Int) = nx (bA s i) by unfold nx; rw [bA_out (by omega), if_pos rfl])
    go_enter Tryz.func100, Tryz.ntmps100
    go_wp2_with fail
    go_quiet (fail)
    go_wp2_with fail
    go_ret
    exact ⟨ret_int hE.out, hB, gr_drewN (gr_refl _ _) _⟩

set_option maxRecDepth 20000 in
set_option maxHeartbeats 8000000 in
theorem iAtom (F : Nat → Option (Tr × Nat)) (s : ByteArray) (d : Int) (g i : Nat) (w : World) (_hF : Fwd s F) (hs : s.size ≤ 1048576) (hi : i < s.size) (hB : Blk w g 97 #[.string s, .int .i64 i, .int .i64 d, .bool false])
    (ih : ∀ (w : World) (i : Nat), i ≤ s.size → Blk w g 97 #[.string s, .int .i64 i, .int .i64 d, .bool false] → Calls Tryz.prog 85 #[.pointer (some ⟨g, 0, none⟩)] w fun e w' => RetP (RI s d g) s.size (F i) g w e w') :
    Calls Tryz.prog 126 #[.pointer (some ⟨g, 0, none⟩)] w fun e w' => RetP (RI s d g) s.size (atomP F s i) g w e w' := by
  have IH := Lib.hid ih
  clear ih
  obtain ⟨c, hc, hc2⟩ : ∃ c : Nat, bA s i = c ∧ c < 256 := ⟨_, rfl, by rw [bA_in hi]; exact s[i].toNat_lt⟩
  generalize hAT : atomP F s i = AT
  have HAT := Lib.hid hAT.symm
  clear hAT
  have hgl := hB.lt
  obtain ⟨j, hj⟩ : ∃ j : Nat, i + 1 = j := ⟨_, rfl⟩
  have ew : IntKind.i64.wrap ((i : Int) + 1) = (j : Int) := by rw [IntWalk.i64_in _ (by omega)]; omega
  have hj1 : i < j := by omega
  have hj2 : j ≤ i + 1 := by omega
  have HJ := Lib.hid hj
  clear hj
  go_enter Tryz.func126, Tryz.ntmps126
  go_wp2_with fail
  refine (iNext s d g i false _ hs (hB.alloc _)).mono ?_; rintro e w1 ⟨rfl, R1, hg1⟩
  have Z1 := (Blk.new w 82 #[.int .i64 0, .string ⟨#[]⟩, .slice none 0 0]).grown hg1 (by simp; omega)
  have G1 := gr_trans (gr_alloc (gr_refl w (some g)) _) hg1
  have hgr : g ≠ w.heap.size := by omega
  have hwr := Nat.le_refl w.heap.size
  rw [show nx (bA s i) = (c : Int) by rw [hc]; unfold nx; rw [if_neg (by omega)]]
  have p1 := R1.cell
  have f1 := R1.frozen
  go_upto_region 3 with fail
  have R2 := R1.set_ 1 (.int .i64 (j : Int))
  simp only [List.setIfInBounds_toArray, List.set_cons_succ, List.set_cons_zero] at R2
  have Z2 := Z1.farb (b := g) (j := 1) (by omega) (.int .i64 (j : Int))
  have G2 := gr_own (j := 1) G1 (.int .i64 (j : Int))
  generalize w1.setCell ⟨g, 1, none⟩ (.int .i64 (j : Int)) = w2 at R2 Z2 G2 ⊢
  clear R1 Z1 G1 p1 f1 hg1 ew
  have z2 := Z2.cell
  have z2f := Z2.frozen
  have L1 := fun w => iLit c w (by omega) (by omega)
  have LC := Lib.hid L1
  clear L1
  have p2 := R2.cell
  have f2 := R2.frozen
  have hg2 := R2.lt
  have hz2 := Z2.lt
  cases hl : litB c
  case' true => simp only [hl] at LC
  case' false => simp only [hl] at LC
  case true =>
    go_wp2_with fail
    refine (LC.out _).mono ?_; rintro e w3 ⟨rfl, rfl⟩
    go_wp2_with fail
    exact bodyPost_ret (res_cell1 rfl _ _ _ _ _ _ rfl (((Z2.set_ 0 _).set_ 1 _).set_ 2 _) Tryz.underlying82 (by kernel_rfl)) rfl ⟨1, Utf8.encode c, .nil, none, 0, j, false, rfl, djNil _ _ _ _, ((R2.farb hgr _).farb hgr _).farb hgr _, gr_setm (gr_setm (gr_setm G2 hwr _) hwr _) hwr _, by omega, HAT.out.trans (by rw [atom_lit (by rw [hc]; exact hl), hc, HJ.out, lit_enc c hc2 hl]; rfl)⟩
  go_wp2_with fail
  refine (LC.out _).mono ?_; rintro e w3 ⟨rfl, rfl⟩
  by_cases h46 : c = 46
  · have b46 : ((c : Int) == 46) = true := by simp [h46]
    go_wp2_with fail
    exact bodyPost_ret (res_cell1 rfl _ _ _ _ _ _ rfl (((Z2.set_ 0 _).set_ 1 _).set_ 2 _) Tryz.underlying82 (by kernel_rfl)) rfl ⟨2, ⟨#[]⟩, .nil, none, 0, j, false, rfl, djNil _ _ _ _, ((R2.farb hgr _).farb hgr _).farb hgr _, gr_setm (gr_setm (gr_setm G2 hwr _) hwr _) hwr _, by omega, HAT.out.trans (by rw [atom_any (by rw [hc]; exact h46), HJ.out]; rfl)⟩
  have b46 : ((c : Int) == 46) = false := by simp; omega
  by_cases h94 : c = 94
  · have b94 : ((c : Int) == 94) = true := by simp [h94]
    go_wp2_with fail
    exact bodyPost_ret (res_cell1 rfl _ _ _ _ _ _ rfl (((Z2.set_ 0 _).set_ 1 _).set_ 2 _) Tryz.underlying82 (by kernel_rfl)) rfl ⟨10, ⟨#[]⟩, .nil, none, 0, j, false, rfl, djNil _ _ _ _, ((R2.farb hgr _).farb hgr _).farb hgr _, gr_setm (gr_setm (gr_setm G2 hwr _) hwr _) hwr _, by omega, HAT.out.trans (by rw [atom_begin (by rw [hc]; exact h94), HJ.out]; rfl)⟩
  have b94 : ((c : Int) == 94) = false := by simp; omega
  by_cases h36 : c = 36
  · have b36 : ((c : Int) == 36) = true := by simp [h36]
    go_wp2_with fail
    exact bodyPost_ret (res_cell1 rfl _ _ _ _ _ _ rfl (((Z2.set_ 0 _).set_ 1 _).set_ 2 _) Tryz.underlying82 (by kernel_rfl)) rfl ⟨11, ⟨#[]⟩, .nil, none, 0, j, false, rfl, djNil _ _ _ _, ((R2.farb hgr _).farb hgr _).farb hgr _, gr_setm (gr_setm (gr_setm G2 hwr _) hwr _) hwr _, by omega, HAT.out.trans (by rw [atom_end (by rw [hc]; exact h36), HJ.out]; rfl)⟩
  have b36 : ((c : Int) == 36) = false := by simp; omega
  by_cases h91 : c = 91
  · have b91 : ((c : Int) == 91) = true := by simp [h91]
    have HA := Lib.hid (HAT.out.trans ((atom_set (by rw [hc]; exact h91)).trans (congrArg (setP s) HJ.out)))
    clear h91 HAT
    have C := fun w => Tryz.strings_IndexByte (s.extract j s.size) 93 w
    simp only [show (93 : Int).toNat.toUInt8 = 93 from rfl] at C
    rcases skB_search s j (by omega) with ⟨hneg, hsk⟩ | ⟨n, hn, hsk, hlt⟩
    · generalize Lib.indexByte (s.extract j s.size).data.toList 93 = x at C hneg
      have CC := Lib.hid C
      clear C
      go_wp2_with fail
      go_quiet (exact Calls.quiet_of_same (CC.out _))
      go_wp2_with fail
      have R9 := (R2.drewN nq).set_ 3 (.bool true)
      simp only [List.setIfInBounds_toArray, List.set_cons_succ, List.set_cons_zero] at R9
      have Z9 := (Z2.drewN nq).farb (b := g) (j := 3) (by omega) (.bool true)
      have G9 := gr_own (j := 3) (gr_drewN G2 nq) (.bool true)
      exact bodyPost_ret (res_cell1 rfl _ _ _ _ _ _ rfl (((Z9.set_ 0 _).set_ 1 _).set_ 2 _) Tryz.underlying82 (by kernel_rfl)) rfl ⟨0, ⟨#[]⟩, .nil, none, 0, j, true, rfl, djNil _ _ _ _, ((R9.farb hgr _).farb hgr _).farb hgr _, gr_setm (gr_setm (gr_setm G9 hwr _) hwr _) hwr _, by omega, HA.out.trans (set_none hsk)⟩
    · rw [hn] at C
      have CC := Lib.hid C
      clear C hn
      obtain ⟨m, hm⟩ : ∃ m : Nat, j + n = m := ⟨_, rfl⟩
      rw [hm] at hsk
      rw [hsk] at hlt
      have HS := Lib.hid hsk
      clear hsk
      obtain ⟨m1, hm1⟩ : ∃ m1 : Nat, m + 1 = m1 := ⟨_, rfl⟩
      have e1 : IntKind.i64.wrap ((j : Int) + n) = (m : Int) := by rw [IntWalk.i64_in _ (by omega)]; omega
      have e2 : IntKind.i64.wrap ((n : Int) + 1) = (n : Int) + 1 := IntWalk.i64_in _ (by omega)
      have e3 : IntKind.i64.wrap ((j : Int) + ((n : Int) + 1)) = (m1 : Int) := by rw [IntWalk.i64_in _ (by omega)]; omega
      have hjm : (j : Int) ≤ (m : Int) := by omega
      have hms : (m : Int) ≤ (s.size : Int) := by omega
      have hm1s : m1 ≤ s.size := by omega
      have HM := Lib.hid hm1
      clear hm hm1
      go_wp2_with fail
      go_quiet (exact Calls.quiet_of_same (CC.out _))
      go_upto_region 14 with fail
      have hg3 : g ≠ w3.heap.size := by omega
      have hz3 : w.heap.size ≠ w3.heap.size := by omega
      refine wp_region_held_drew (S := fun x : World => Blk x g 97 #[.string s, .int .i64 j, .int .i64 d, .bool false]) (by kernel_rfl) ?_ (fun hHeld => ?_)
      · exact (R2.drewN nq).drew
      refine wpAnyH_take (i := 0) (oi := ⟨some 50, _, _, _, _, _⟩) (v := ?_) rfl (by kernel_rfl) (by kernel_rfl) (by kernel_rfl) (fun _ _ _ h => h) (Or.inl ⟨by rfl, ?_⟩) (by assumption) ?_
      case refine_2 => (intro w hSw; skip; go_simp; first | done | with_reducible rfl)
      simp only [Act.put, qA, qB, qC]
      refine wpAnyH_take (i := 1) (oi := ⟨some 51, _, _, _, _, _⟩) (v := ?_) rfl (by kernel_rfl) (by kernel_rfl) (by kernel_rfl) (fun _ _ _ h => h) (Or.inl ⟨by rfl, ?_⟩) (by assumption) ?_
      case refine_2 => (intro w hSw; skip; go_simp; first | done | with_reducible rfl)
      simp only [Act.put, qA, qB, qC]
      refine wpAnyH_take (i := 2) (oi := ⟨some 52, _, _, _, _, _⟩) (v := ?_) rfl (by kernel_rfl) (by kernel_rfl) (by kernel_rfl) (fun _ _ _ h => h) (Or.inl ⟨by rfl, ?_⟩) (by assumption) ?_
      case refine_2 => (intro w hSw; skip; go_simp; first | done | with_reducible rfl)
      simp only [Act.put, qA, qB, qC]
      refine wpAnyH_take (i := 3) (oi := ⟨some 53, _, _, _, _, _⟩) (v := ?_) rfl (by kernel_rfl) (by kernel_rfl) (by kernel_rfl) (fun _ _ _ h => h) (Or.inl ⟨by rfl, ?_⟩) (by assumption) ?_
      case refine_2 => (intro w hSw; have p := hSw.cell; go_simp; first | done | with_reducible rfl)
      simp only [Act.put, qA, qB, qC]
      refine wpAnyH_take (i := 4) (oi := ⟨some 54, _, _, _, _, _⟩) (v := ?_) rfl (by kernel_rfl) (by kernel_rfl) (by kernel_rfl) (fun _ _ _ h => h) (Or.inl ⟨by rfl, ?_⟩) (by assumption) ?_
      case refine_2 => (intro w hSw; skip; go_simp; first | done | with_reducible rfl)
      simp only [Act.put, qA, qB, qC]
      refine wpAnyH_take (i := 5) (oi := ⟨some 55, _, _, _, _, _⟩) (v := ?_) rfl (by kernel_rfl) (by kernel_rfl) (by kernel_rfl) (fun _ _ _ h => h) (Or.inl ⟨by rfl, ?_⟩) (by assumption) ?_
      case refine_2 => (intro w hSw; skip; go_simp; first | done | with_reducible rfl)
      simp only [Act.put, qA, qB, qC]
      refine wpAnyH_take (i := 6) (oi := ⟨some 56, _, _, _, _, _⟩) (v := ?_) rfl (by kernel_rfl) (by kernel_rfl) (by kernel_rfl) (fun _ _ _ h => h) (Or.inl ⟨by rfl, ?_⟩) (by assumption) ?_
      case refine_2 => (intro w hSw; skip; go_simp; first | done | with_reducible rfl)
      simp only [Act.put, qA, qB, qC]
      refine wpAnyH_take (i := 7) (oi := ⟨some 57, _, _, _, _, _⟩) (v := ?_) rfl (by kernel_rfl) (by kernel_rfl) (by kernel_rfl) (fun _ _ _ h => h) (Or.inl ⟨by rfl, ?_⟩) (by assumption) ?_
      case refine_2 => (intro w hSw; have p := hSw.cell; go_simp; first | done | with_reducible rfl)
      simp only [Act.put, qA, qB, qC]
      refine wpAnyH_take (i := 8) (oi := ⟨some 58, _, _, _, _, _⟩) (v := ?_) rfl (by kernel_rfl) (by kernel_rfl) (by kernel_rfl) (fun _ _ _ h => h) (Or.inl ⟨by rfl, ?_⟩) (by assumption) ?_
      case refine_2 => (intro w hSw; skip; go_simp; first | done | with_reducible rfl)
      simp only [Act.put, qA, qB, qC]
      refine wpAnyH_take (i := 9) (oi := ⟨some 59, _, _, _, _, _⟩) (v := ?_) rfl (by kernel_rfl) (by kernel_rfl) (by kernel_rfl) (fun _ _ _ h => h) (Or.inl ⟨by rfl, ?_⟩) (by assumption) ?_
      case refine_2 => (intro w hSw; skip; go_simp; first | done | with_reducible rfl)
      simp only [Act.put, qA, qB, qC]
      refine wpAnyH_take (i := 10) (oi := ⟨some 60, _, _, _, _, _⟩) (v := ?_) rfl (by kernel_rfl) (by kernel_rfl) (by kernel_rfl) (fun _ _ _ h => h) (Or.inl ⟨by rfl, ?_⟩) (by assumption) ?_
      case refine_2 => (intro w hSw; skip; go_simp; first | done | with_reducible rfl)
      simp only [Act.put, qA, qB, qC]
      refine wpAnyH_take (i := 11) (oi := ⟨some 61, _, _, _, _, _⟩) (v := ?_) rfl (by kernel_rfl) (by kernel_rfl) (by kernel_rfl) (fun _ _ _ h => h) (Or.inl ⟨by rfl, ?_⟩) (by assumption) ?_
      case refine_2 => (intro w hSw; have p := hSw.cell; go_simp; first | done | with_reducible rfl)
      simp only [Act.put, qA, qB, qC]
      refine wpAnyH_take (i := 12) (oi := ⟨some 62, _, _, _, _, _⟩) (v := ?_) rfl (by kernel_rfl) (by kernel_rfl) (by kernel_rfl) (fun _ _ _ h => h) (Or.inl ⟨by rfl, ?_⟩) (by assumption) ?_
      case refine_2 => (intro w hSw; skip; go_simp; first | done | with_reducible rfl)
      simp only [Act.put, qA, qB, qC]
      refine wpAnyH_take (i := 13) (oi := ⟨some 63, _, _, _, _, _⟩) (v := ?_) rfl (by kernel_rfl) (by kernel_rfl) (by kernel_rfl) (fun _ _ _ h => h) (Or.inl ⟨by rfl, ?_⟩) (by assumption) ?_
      case refine_2 => (intro w hSw; skip; go_simp; first | done | with_reducible rfl)
      simp only [Act.put, qA, qB, qC]
      refine wpAnyH_take (i := 14) (oi := ⟨some 64, _, _, _, _, _⟩) (v := ?_) rfl (by kernel_rfl) (by kernel_rfl) (by kernel_rfl) (fun _ _ _ h => h) (Or.inl ⟨by rfl, ?_⟩) (by assumption) ?_
      case refine_2 => (intro w hSw; skip; go_simp; first | done | with_reducible rfl)
      simp only [Act.put, qA, qB, qC]
      refine wpAnyH_take (i := 15) (oi := ⟨some 65, _, _, _, _, _⟩) (v := ?_) rfl (by kernel_rfl) (by kernel_rfl) (by kernel_rfl) (fun _ _ _ h => h) (Or.inl ⟨by rfl, ?_⟩) (by assumption) ?_
      case refine_2 => (intro w hSw; skip; go_simp; first | done | with_reducible rfl)
      simp only [Act.put, qA, qB, qC]
      refine wpAnyH_ready (rs := [16]) (by kernel_rfl) (by simp) ?_
      refine AllReadyH.cons (o := ⟨some 5, _, _, _, _, _⟩) rfl (fun K hK => ?_) AllReadyH.nil
      go_simp
      go_wp2_with fail
      refine hK.out _ _ ((R2.drewN nq).drew.alloc _) (fun hHeld => ?_)
      clear hK K
      try simp only [Act.put, qA, qB, qC]
      have fz := (Blk.new (w3.drewN (nq + 1)) 82 #[.int .i64 0, .string ⟨#[]⟩, .slice none 0 0]).frozen
      have cz := (Blk.new (w3.drewN (nq + 1)) 82 #[.int .i64 0, .string ⟨#[]⟩, .slice none 0 0]).cell
      change ∀ i, World.frozen? _ ⟨w3.heap.size, i, none⟩ = _ at fz
      change ∀ i, World.cell? _ ⟨w3.heap.size, i, none⟩ = _ at cz
      refine wpAnyH_ready (rs := [17]) (by kernel_rfl) (by simp) ?_
      refine AllReadyH.cons (o := ⟨none, _, _, _, _, _⟩) rfl (fun K hK => ?_) AllReadyH.nil
      go_simp
      go_wp2_with fail
      refine hK.out _ _ (((((R2.drewN nq).drew.alloc _).farb hg3 _).farb hg3 _).farb hg3 _) (fun hHeld => ?_)
      clear hK K
      try simp only [Act.put, qA, qB, qC]
      refine wpAnyH_done (by kernel_rfl) ?_ _
      go_upto_region 15 with fail
      have N4 : Blk (((((w3.drewN (nq + 1)).alloc (.cells #[.int .i64 0, .string ⟨#[]⟩, .slice none 0 0] 82)).setCell ⟨w3.heap.size, 0, none⟩ (.int .i64 3)).setCell ⟨w3.heap.size, 1, none⟩ (.string (s.extract j m))).setCell ⟨w3.heap.size, 2, none⟩ (.slice none 0 0)) w3.heap.size 82 #[.int .i64 3, .string (s.extract j m), .slice none 0 0] := (((Blk.new (w3.drewN (nq + 1)) 82 #[.int .i64 0, .string ⟨#[]⟩, .slice none 0 0]).set_ 0 (.int .i64 3)).set_ 1 (.string (s.extract j m))).set_ 2 (.slice none 0 0)
      have R4 := ((((R2.drewN (nq + 1)).alloc (.cells #[.int .i64 0, .string ⟨#[]⟩, .slice none 0 0] 82)).farb (b := w3.heap.size) (j := 0) hg3 (.int .i64 3)).farb (b := w3.heap.size) (j := 1) hg3 (.string (s.extract j m))).farb (b := w3.heap.size) (j := 2) hg3 (.slice none 0 0)
      have Z4 := ((((Z2.drewN (nq + 1)).alloc (.cells #[.int .i64 0, .string ⟨#[]⟩, .slice none 0 0] 82)).farb (b := w3.heap.size) (j := 0) hz3 (.int .i64 3)).farb (b := w3.heap.size) (j := 1) hz3 (.string (s.extract j m))).farb (b := w3.heap.size) (j := 2) hz3 (.slice none 0 0)
      have G4 := gr_setm (b := w3.heap.size) (j := 2) (gr_setm (b := w3.heap.size) (j := 1) (gr_setm (b := w3.heap.size) (j := 0) (gr_alloc (gr_drewN G2 (nq + 1)) (.cells #[.int .i64 0, .string ⟨#[]⟩, .slice none 0 0] 82)) G2.size (.int .i64 3)) G2.size (.string (s.extract j m))) G2.size (.slice none 0 0)
      change w.grownBy (((((w3.drewN (nq + 1)).alloc (.cells #[.int .i64 0, .string ⟨#[]⟩, .slice none 0 0] 82)).setCell ⟨w3.heap.size, 0, none⟩ (.int .i64 3)).setCell ⟨w3.heap.size, 1, none⟩ (.string (s.extract j m))).setCell ⟨w3.heap.size, 2, none⟩ (.slice none 0 0)) (some g) at G4
      generalize ((((w3.drewN (nq + 1)).alloc (.cells #[.int .i64 0, .string ⟨#[]⟩, .slice none 0 0] 82)).setCell ⟨w3.heap.size, 0, none⟩ (.int .i64 3)).setCell ⟨w3.heap.size, 1, none⟩ (.string (s.extract j m))).setCell ⟨w3.heap.size, 2, none⟩ (.slice none 0 0) = w5 at N4 R4 Z4 G4 ⊢
      generalize w3.heap.size = nb at *
      have p5 := R4.cell
      have f5 := R4.frozen
      have z5 := Z4.cell
      have zf5 := Z4.frozen
      have n5 := N4.cell
      clear p2 f2 z2 z2f
      go_wp2_with fail
      have R9 := R4.set_ 1 (.int .i64 (m1 : Int))
      simp only [List.setIfInBounds_toArray, List.set_cons_succ, List.set_cons_zero] at R9
      have Z9 := Z4.farb (b := g) (j := 1) (by omega) (.int .i64 (m1 : Int))
      have G9 := gr_own (j := 1) G4 (.int .i64 (m1 : Int))
      exact bodyPost_ret (res_cell1 rfl _ _ _ _ _ _ rfl (((Z9.set_ 0 _).set_ 1 _).set_ 2 _) Tryz.underlying82 (by kernel_rfl)) rfl ⟨3, s.extract j m, .nil, none, 0, m1, false, rfl, djNil _ _ _ _, ((R9.farb hgr _).farb hgr _).farb hgr _, gr_setm (gr_setm (gr_setm G9 hwr _) hwr _) hwr _, hm1s, HA.out.trans (by rw [set_some (by rw [HS.out]; exact hlt), HS.out, HM.out]; rfl)⟩
  have b91 : ((c : Int) == 91) = false := by simp; omega
  by_cases h40 : c = 40
  · have b40 : ((c : Int) == 40) = true := by simp [h40]
    have HA := Lib.hid (HAT.out.trans ((atom_group (by rw [hc]; exact h40)).trans (congrArg (groupP F s) HJ.out)))
    clear h40 HAT
    by_cases h41 : bA s j = 41
    · have n41 : (nx (bA s j) == 41) = true := by rw [h41]; rfl
      have HG := Lib.hid (HA.out.trans (group_empty h41))
      have h41s := bA_lt (s := s) (i := j) (by omega)
      clear h41
      generalize hnx : nx (bA s j) = y at n41
      have NX := Lib.hid hnx
      clear hnx
      obtain ⟨j1, hj1'⟩ : ∃ j1 : Nat, j + 1 = j1 := ⟨_, rfl⟩
      have ew : IntKind.i64.wrap ((j : Int) + 1) = (j1 : Int) := by rw [IntWalk.i64_in _ (by omega)]; omega
      have hj1s : j1 ≤ s.size := by omega
      have HJ1 := Lib.hid hj1'
      clear hj1'
      go_wp2_with fail
      refine (iNext s d g j false _ hs R2).mono ?_; rintro e w4 ⟨rfl, R4, hg4⟩
      rw [NX.out]
      have Z4 := Z2.grown hg4 (by simp; omega)
      have G4 := gr_trans G2 hg4
      have p5 := R4.cell
      have f5 := R4.frozen
      have z5 := Z4.cell
      have zf5 := Z4.frozen
      clear p2 f2 z2 z2f
      go_wp2_with fail
      have R9 := R4.set_ 1 (.int .i64 (j1 : Int))
      simp only [List.setIfInBounds_toArray, List.set_cons_succ, List.set_cons_zero] at R9
      have Z9 := Z4.farb (b := g) (j := 1) (by omega) (.int .i64 (j1 : Int))
      have G9 := gr_own (j := 1) G4 (.int .i64 (j1 : Int))
      exact bodyPost_ret (res_cell1 rfl _ _ _ _ _ _ rfl (((Z9.set_ 0 _).set_ 1 _).set_ 2 _) Tryz.underlying82 (by kernel_rfl)) rfl ⟨9, ⟨#[]⟩, .nil, none, 0, j1, false, rfl, djNil _ _ _ _, ((R9.farb hgr _).farb hgr _).farb hgr _, gr_setm (gr_setm (gr_setm G9 hwr _) hwr _) hwr _, hj1s, HG.out.trans (by rw [HJ1.out]; rfl)⟩
    · have n41 : (nx (bA s j) == 41) = false := by unfold nx; split <;> simp <;> omega
      have H41 := Lib.hid h41
      clear h41
      generalize hnx : nx (bA s j) = y at n41
      have NX := Lib.hid hnx
      clear hnx
      go_wp2_with fail
      refine (iNext s d g j false _ hs R2).mono ?_; rintro e w4 ⟨rfl, R4, hg4⟩
      rw [NX.out]
      have Z4 := Z2.grown hg4 (by simp; omega)
      have G4 := gr_trans G2 hg4
      clear p2 f2 z2 z2f
      go_wp2_with fail
      refine (IH.out _ j (by omega) R4).mono ?_; rintro e w5 ⟨k, t, kids, A, kc, q, bb, rfl, hS5, R5, hg5, hq5, hX5⟩
      replace R5 : Blk w5 g 97 #[.string s, .int .i64 q, .int .i64 d, .bool bb] := R5
      have Z5 := Z4.grown hg5 (by simp; omega)
      have G5 := gr_trans G4 hg5
      have s34 := hg4.size
      have s5 := hg5.size
      have HX := Lib.hid hX5
      clear hX5 R4 Z4 G4 hg4
      have N6 := Blk.new w5 82 #[.int .i64 k, .string t, .slice A kids.len kc]
      have R6 := R5.alloc (.cells #[.int .i64 k, .string t, .slice A kids.len kc] 82)
      have Z6 := Z5.alloc (.cells #[.int .i64 k, .string t, .slice A kids.len kc] 82)
      have G6 := gr_alloc G5 (.cells #[.int .i64 k, .string t, .slice A kids.len kc] 82)
      have hS6 := hS5.keep (w' := w5.alloc (.cells #[.int .i64 k, .string t, .slice A kids.len kc] 82)) (fun p _ h2 => alB _ _ h2) (Nat.le_refl _) (Nat.le_refl _)
      have s6 := alloc_size w5 (.cells #[.int .i64 k, .string t, .slice A kids.len kc] 82)
      have s6' := Nat.le_of_eq s6.symm
      clear s6
      by_cases h41 : bA s q = 41
      · skip
        have n41 : (nx (bA s q) != 41) = false := by rw [h41]; rfl
        have H41q := Lib.hid h41
        have h41s := bA_lt (s := s) (i := q) (by omega)
        clear h41
        generalize hnx : nx (bA s q) = y at n41
        have NX := Lib.hid hnx
        clear hnx
        go_wp2_with fail
        generalize w5.alloc (.cells #[.int .i64 k, .string t, .slice A kids.len kc] 82) = w6 at N6 R6 Z6 G6 hS6 s6' ⊢
        generalize w5.heap.size = nb at *
        refine (iNext s d g q bb _ hs R6).mono ?_; rintro e w7 ⟨rfl, R7, hg7⟩
        rw [NX.out]
        have Z7 := Z6.grown hg7 (by simp; omega)
        have N7 := N6.grown hg7 (by simp; omega)
        have G7 := gr_trans G6 hg7
        have s7 := hg7.size
        have hS7 := hS6.grew hg7 (fun k e => by cases e; omega) (by omega)
        have p5 := R7.cell
        have f5 := R7.frozen
        have z5 := Z7.cell
        have zf5 := Z7.frozen
        have n5 := N7.cell
        obtain ⟨q1, hq1⟩ : ∃ q1 : Nat, q + 1 = q1 := ⟨_, rfl⟩
        have ew : IntKind.i64.wrap ((q : Int) + 1) = (q1 : Int) := by rw [IntWalk.i64_in _ (by omega)]; omega
        have hq1s : q1 ≤ s.size := by omega
        have HQ1 := Lib.hid hq1
        clear hq1
        go_wp2_with fail
        have R9 := R7.set_ 1 (.int .i64 (q1 : Int))
        simp only [List.setIfInBounds_toArray, List.set_cons_succ, List.set_cons_zero] at R9
        have Z9 := Z7.farb (b := g) (j := 1) (by omega) (.int .i64 (q1 : Int))
        have G9 := gr_own (j := 1) G7 (.int .i64 (q1 : Int))
        exact bodyPost_ret (res_cell1 rfl _ _ _ _ _ _ rfl (((Z9.set_ 0 _).set_ 1 _).set_ 2 _) Tryz.underlying82 (by kernel_rfl)) rfl ⟨k, t, kids, A, kc, q1, bb, rfl, ((((hS7.setb (.inl (by omega)) _).setb (.inl (by omega)) _).setb (.inl (by omega)) _).setb (.inl (by omega)) _).more (by omega) (by simp; omega), ((R9.farb hgr _).farb hgr _).farb hgr _, gr_setm (gr_setm (gr_setm G9 hwr _) hwr _) hwr _, hq1s, HA.out.trans (by cases bb; exact (group_some H41.out HX.out H41q.out).trans (by rw [HQ1.out]; rfl); exact group_bad H41.out HX.out)⟩
      · skip
        have n41 : (nx (bA s q) != 41) = true := by unfold nx; split <;> simp <;> omega
        have H41q := Lib.hid h41
        clear h41
        generalize hnx : nx (bA s q) = y at n41
        have NX := Lib.hid hnx
        clear hnx
        go_wp2_with fail
        generalize w5.alloc (.cells #[.int .i64 k, .string t, .slice A kids.len kc] 82) = w6 at N6 R6 Z6 G6 hS6 s6' ⊢
        generalize w5.heap.size = nb at *
        refine (iNext s d g q bb _ hs R6).mono ?_; rintro e w7 ⟨rfl, R7, hg7⟩
        rw [NX.out]
        have Z7 := Z6.grown hg7 (by simp; omega)
        have N7 := N6.grown hg7 (by simp; omega)
        have G7 := gr_trans G6 hg7
        have s7 := hg7.size
        have hS7 := hS6.grew hg7 (fun k e => by cases e; omega) (by omega)
        have p5 := R7.cell
        have f5 := R7.frozen
        have z5 := Z7.cell
        have zf5 := Z7.frozen
        have n5 := N7.cell
        go_wp2_with fail
        have R9 := R7.set_ 3 (.bool true)
        simp only [List.setIfInBounds_toArray, List.set_cons_succ, List.set_cons_zero] at R9
        have Z9 := Z7.farb (b := g) (j := 3) (by omega) (.bool true)
        have G9 := gr_own (j := 3) G7 (.bool true)
        exact bodyPost_ret (res_cell1 rfl _ _ _ _ _ _ rfl (((Z9.set_ 0 _).set_ 1 _).set_ 2 _) Tryz.underlying82 (by kernel_rfl)) rfl ⟨0, ⟨#[]⟩, .nil, none, 0, q, true, rfl, djNil _ _ _ _, ((R9.farb hgr _).farb hgr _).farb hgr _, gr_setm (gr_setm (gr_setm G9 hwr _) hwr _) hwr _, hq5, HA.out.trans (by cases bb; exact group_open H41.out HX.out H41q.out; exact group_bad H41.out HX.out)⟩
  have b40 : ((c : Int) == 40) = false := by simp; omega
  go_wp2_with fail
  have R9 := R2.set_ 3 (.bool true)
  simp only [List.setIfInBounds_toArray, List.set_cons_succ, List.set_cons_zero] at R9
  have Z9 := Z2.farb (b := g) (j := 3) (by omega) (.bool true)
  have G9 := gr_own (j := 3) G2 (.bool true)
  exact bodyPost_ret (res_cell1 rfl _ _ _ _ _ _ rfl (((Z9.set_ 0 _).set_ 1 _).set_ 2 _) Tryz.underlying82 (by kernel_rfl)) rfl ⟨0, ⟨#[]⟩, .nil, none, 0, j, true, rfl, djNil _ _ _ _, ((R9.farb hgr _).farb hgr _).farb hgr _, gr_setm (gr_setm (gr_setm G9 hwr _) hwr _) hwr _, by omega, HAT.out.trans (atom_none (by rw [hc]; exact hl) (by omega) (by omega) (by omega) (by omega) (by omega))⟩

end Go.Proofs.YtemlnpncljomgaaGreatDoor
