import Derived.Test.YtemlnpncljomgaaGreatDoorPasE
namespace Go.Proofs.YtemlnpncljomgaaGreatDoor
open Go.RowKit

set_option maxRecDepth 20000 in
set_option maxHeartbeats 4000000 in
theorem sAltS (F : Nat → Option (Tr × Nat)) (s : ByteArray) (d d1 : Int) (g i : Nat) (w : World) (hF : Fwd s F) (hs : s.size ≤ 1048576) (hd : d + 1 = d1) (hd0 : 0 ≤ d) (hd8 : d ≤ 8) (hz : 8 < d1 → ∀ i, F i = none) (hi : i ≤ s.size) (hB : Blk w g 91 #[.string s, .int .i64 i, .bool false, .int .i64 d])
    (ih : d1 ≤ 8 → ∀ (w : World) (i : Nat), i ≤ s.size → Blk w g 91 #[.string s, .int .i64 i, .bool false, .int .i64 d1] → Calls Tryz.prog 81 #[.pointer (some ⟨g, 0, none⟩)] w fun e w' => RetP (RS s d1 g) s.size (F i) g w e w') :
    Calls Tryz.prog 81 #[.pointer (some ⟨g, 0, none⟩)] w fun e w' => RetP (RS s d g) s.size (altF false F s i) g w e w' := by
  have CT := Lib.hid fun (w : World) (i : Nat) (hi : i ≤ s.size) (hB : Blk w g 91 #[.string s, .int .i64 i, .bool false, .int .i64 d]) => sCat F s d d1 g i w hF hs hd hd0 hd8 hz hi hB ih
  clear ih hz hd
  obtain ⟨j0, hj, hy0, hy1, hy2⟩ := info_parts info_Rex
  have hgl := hB.lt
  have hgr : g ≠ w.heap.size := by omega
  have hwr := Nat.le_refl w.heap.size
  generalize hCF : altF false F s i = CF
  have HCF := Lib.hid hCF.symm
  clear hCF
  go_enter Tryz.func81, Tryz.ntmps81
  go_wp2_with fail
  refine (CT.out _ i hi (hB.alloc _)).mono ?_; rintro e w1 ⟨k, t, kids, Ay, cy, q, bb, rfl, hS1, ⟨dd, hdd, R1⟩, hg1, hq, hX1⟩
  have Z1 := (Blk.new w 82 #[.int .i64 0, .string ⟨#[]⟩, .slice none 0 0]).grown hg1 (by simp; omega)
  have G1 := gr_trans (gr_alloc (gr_refl w (some g)) _) hg1
  have s1 := hg1.size
  rw [alloc_size] at s1 hS1
  have HX := Lib.hid hX1
  clear hX1 hg1
  go_wp2_with fail
  go_loopw [3] (fun lv wr => ∃ (L : List Tr) (A : Option Addr) (n c q : Nat) (b : Bool) (dd : Int), lv = .slice A n c ∧ Acc wr (w.heap.size + 1) wr.heap.size A n c L ∧ (b = false → dd = d) ∧ Blk wr g 91 #[.string s, .int .i64 q, .bool b, .int .i64 dd] ∧ Blk wr w.heap.size 82 #[.int .i64 0, .string ⟨#[]⟩, .slice none 0 0] ∧ w.grownBy wr (some g) ∧ q ≤ s.size ∧ 1 ≤ n ∧ (b = false → n ≤ q ∧ CF = finP 5 (catsP s (catP false F s) (s.size - q) L q)) ∧ (b = true → CF = none)) (fun lv _ => s.size + 1 - lenV lv)
  case atStart =>
    refine ⟨[((k, t), kids)], _, 1, 1, q, bb, dd, rfl, Acc.lit hS1 (by omega) (by omega), hdd, R1.alloc _, Z1.alloc _, gr_alloc G1 _, hq, Nat.le_refl _, fun h => ?_, fun h => ?_⟩
    · subst h
      have hX := HX.out
      have hf := catP_fwd hs hF i _ q hi hX
      exact ⟨by omega, HCF.out.trans (by unfold altF; rw [hX]; rfl)⟩
    · subst h
      exact HCF.out.trans (by unfold altF; rw [HX.out]; rfl)
  case round =>
    clear HX hS1 R1 Z1 G1
    obtain ⟨L, A, n, c, q, b, dd, rfl, hA, hdd, Rr, Zr, Gr, hq, hn1, hb0, hb1⟩ := hrel
    have hsr := Gr.size
    have hrw := Zr.lt
    cases b
    case true =>
      have HE := Lib.hid (show CF = cond true none (finP 5 (some (L, q))) from hb1 rfl)
      clear hb0 hb1
      go_wp2_with fail
      refine (sIsBad s dd g q 124 _ Rr).mono ?_; rintro e wa ⟨rfl, RA, hga⟩
      have ZA := Zr.grown hga (by simp; omega)
      have GA := gr_trans Gr hga
      have AA := hA.grown hga (by omega)
      clear Rr Zr Gr hA hrw hga
      go_upto_region 4 with fail
      rcases (show n = 1 ∨ 2 ≤ n by omega) with rfl | h2
      · obtain ⟨k, t, kids, ab, A', c', rfl, rfl, h3, h4, a0, a1, a2, hS⟩ := AA.one
        have z8 := ZA.cell
        have zf8 := ZA.frozen
        have r8 := RA.cell
        have rf8 := RA.frozen
        have hw8 := ZA.lt
        clear AA
        go_wp2_with fail
        exact bodyPost_ret (res_cell1 rfl _ _ _ _ _ _ rfl (((ZA.set_ 0 _).set_ 1 _).set_ 2 _) Tryz.underlying82 (by kernel_rfl)) rfl ⟨k, t, kids, A', c', q, true, rfl, (((hS.setb (.inl (by omega)) _).setb (.inl (by omega)) _).setb (.inl (by omega)) _).more (by omega) (by simp), ⟨_, fun h => (by first | rfl | cases h), ((RA.farb hgr _).farb hgr _).farb hgr _⟩, gr_setm (gr_setm (gr_setm GA hwr _) hwr _) hwr _, hq, HE.out⟩
      · obtain ⟨hn9, hS⟩ := AA.done
        have b0 : ((n : Int) == 0) = false := beq_eq_false_iff_ne.2 (by omega)
        have b1 : ((n : Int) == 1) = false := beq_eq_false_iff_ne.2 (by omega)
        have HV := Lib.hid (HE.out.trans (show cond true none (finP 5 (some (L, q))) = cond true none (some (((5, ⟨#[]⟩), mkFr L), q)) from rfl))
        have z8 := ZA.cell
        have zf8 := ZA.frozen
        have r8 := RA.cell
        have rf8 := RA.frozen
        have hw8 := ZA.lt
        clear AA
        go_wp2_with fail
        subst hn9
        exact bodyPost_ret (res_cell1 rfl _ _ _ _ _ _ rfl (((ZA.set_ 0 _).set_ 1 _).set_ 2 _) Tryz.underlying82 (by kernel_rfl)) rfl ⟨5, ⟨#[]⟩, mkFr L, A, c, q, true, rfl, (((hS.setb (.inl (by omega)) _).setb (.inl (by omega)) _).setb (.inl (by omega)) _).more (by omega) (by simp), ⟨_, fun h => (by first | rfl | cases h), ((RA.farb hgr _).farb hgr _).farb hgr _⟩, gr_setm (gr_setm (gr_setm GA hwr _) hwr _) hwr _, hq, HV.out⟩
    obtain ⟨hnq, hE0⟩ := hb0 rfl
    have hd9 := hdd rfl
    subst hd9
    have HI := Lib.hid hE0
    clear hE0 hb0 hb1 hdd
    by_cases h1 : bA s q = 124
    case' neg =>
      have HE := Lib.hid (show CF = cond false none (finP 5 (some (L, q))) from HI.out.trans (by rw [catsP_stop h1]; rfl))
      have CN := Lib.hid (sIsNo s dd g q 124 _ hs (by omega) Rr)
      clear HI h1
      go_wp2_with fail
      refine (CN.out).mono ?_; rintro e wa ⟨rfl, RA, hga⟩
      have ZA := Zr.grown hga (by simp; omega)
      have GA := gr_trans Gr hga
      have AA := hA.grown hga (by omega)
      clear Rr Zr Gr hA hrw hga
      go_upto_region 4 with fail
      rcases (show n = 1 ∨ 2 ≤ n by omega) with rfl | h2
      · obtain ⟨k, t, kids, ab, A', c', rfl, rfl, h3, h4, a0, a1, a2, hS⟩ := AA.one
        have z8 := ZA.cell
        have zf8 := ZA.frozen
        have r8 := RA.cell
        have rf8 := RA.frozen
        have hw8 := ZA.lt
        clear AA
        go_wp2_with fail
        exact bodyPost_ret (res_cell1 rfl _ _ _ _ _ _ rfl (((ZA.set_ 0 _).set_ 1 _).set_ 2 _) Tryz.underlying82 (by kernel_rfl)) rfl ⟨k, t, kids, A', c', q, false, rfl, (((hS.setb (.inl (by omega)) _).setb (.inl (by omega)) _).setb (.inl (by omega)) _).more (by omega) (by simp), ⟨_, fun h => (by first | rfl | cases h), ((RA.farb hgr _).farb hgr _).farb hgr _⟩, gr_setm (gr_setm (gr_setm GA hwr _) hwr _) hwr _, hq, HE.out⟩
      · obtain ⟨hn9, hS⟩ := AA.done
        have b0 : ((n : Int) == 0) = false := beq_eq_false_iff_ne.2 (by omega)
        have b1 : ((n : Int) == 1) = false := beq_eq_false_iff_ne.2 (by omega)
        have HV := Lib.hid (HE.out.trans (show cond false none (finP 5 (some (L, q))) = cond false none (some (((5, ⟨#[]⟩), mkFr L), q)) from by rw [fin_some (by rw [AA.1]; omega), node_more (by rw [AA.1]; exact h2)]))
        have z8 := ZA.cell
        have zf8 := ZA.frozen
        have r8 := RA.cell
        have rf8 := RA.frozen
        have hw8 := ZA.lt
        clear AA
        go_wp2_with fail
        subst hn9
        exact bodyPost_ret (res_cell1 rfl _ _ _ _ _ _ rfl (((ZA.set_ 0 _).set_ 1 _).set_ 2 _) Tryz.underlying82 (by kernel_rfl)) rfl ⟨5, ⟨#[]⟩, mkFr L, A, c, q, false, rfl, (((hS.setb (.inl (by omega)) _).setb (.inl (by omega)) _).setb (.inl (by omega)) _).more (by omega) (by simp), ⟨_, fun h => (by first | rfl | cases h), ((RA.farb hgr _).farb hgr _).farb hgr _⟩, gr_setm (gr_setm (gr_setm GA hwr _) hwr _) hwr _, hq, HV.out⟩
    have hqs : q < s.size := bA_lt (fun h => by omega)
    have HN := Lib.hid (HI.out.trans (congrArg (finP 5) (catsP_step (catP_fwd hs hF) h1)))
    clear HI
    obtain ⟨q1, hq1⟩ : ∃ q1 : Nat, q + 1 = q1 := ⟨_, rfl⟩
    have hq1s : q1 ≤ s.size := by omega
    have hqq : q < q1 := by omega
    have CY := Lib.hid (sIsYes s dd g q 124 _ hs (by omega) (by omega) q1 hq1 Rr)
    have HQ1 := Lib.hid hq1
    clear hq1 h1
    go_wp2_with fail
    refine CY.out.mono ?_; rintro e wa ⟨rfl, RA, hga⟩
    have ZA := Zr.grown hga (by simp; omega)
    have GA := gr_trans Gr hga
    have AA := hA.grown hga (by omega)
    clear Rr Zr Gr hA hrw hga CY
    have hlt5 := AA.lt
    have hh5 := AA.hi_le
    have s4 := ZA.lt
    go_wp2_with fail
    refine (CT.out _ q1 (by omega) RA).mono ?_; rintro e w5 ⟨k, t, kids, Ay, cy, q', bb, rfl, hS5, ⟨de, hde, R5⟩, hg5, hq', hX5⟩
    have Z5 := ZA.grown hg5 (by simp; omega)
    have A5 := AA.grown hg5 (by omega)
    have G5 := gr_trans GA hg5
    have s5 := hg5.size
    have HX := Lib.hid hX5
    clear hX5 RA ZA AA hg5
    go_wp2_with (at_builtin; refine wpList_acc rfl _ _ 80 rfl (w.heap.size + 1) j0 Tryz.underlying80 hj hy0 hy1 hy2 A n c L rfl A5 k t kids Ay cy wa.heap.size rfl (by omega) (by omega) hS5 (by omega) hh5 ?_)
    intro A7 c7 w7 hA7 hg7
    have hk7 : ∀ k, (Value.slice A n c).ownBlock = some k → w.heap.size + 1 ≤ k := fun k hk => (hlt5 k hk).1
    have R7 := R5.grown hg7 (fun e => by have := hk7 _ e.symm; omega)
    have Z7 := Z5.grown hg7 (fun e => by have := hk7 _ e.symm; omega)
    have G7 := gr_push G5 hg7 (fun k e => by have := hk7 k e; omega)
    clear R5 Z5 A5 G5 hS5 hg7
    go_wp2_with fail
    go_roundw
    case rel =>
      refine ⟨L ++ [((k, t), kids)], A7, n + 1, c7, q', bb, de, rfl, hA7, hde, R7, Z7, G7, hq', by omega, fun h => ?_, fun h => ?_⟩
      · subst h
        have hX := HX.out
        have hf := catP_fwd hs hF q1 _ q' (by omega) hX
        exact ⟨by omega, HN.out.trans (by rw [HQ1.out, hX]; rfl)⟩
      · subst h
        exact HN.out.trans (by rw [HQ1.out, HX.out]; rfl)
    case measure => simp [lenV]; omega

theorem sAlt (s : ByteArray) (g : Nat) (hs : s.size ≤ 1048576) : ∀ (n : Nat) (d : Int), n ≤ 8 → d = 8 - n → ∀ (w : World) (i : Nat), i ≤ s.size → Blk w g 91 #[.string s, .int .i64 i, .bool false, .int .i64 d] → Calls Tryz.prog 81 #[.pointer (some ⟨g, 0, none⟩)] w fun e w' => RetP (RS s d g) s.size (altP false s (n + 1) i) g w e w'
  | 0, d, _, hd, w, i, hi, hB => sAltS (altP false s 0) s d (d + 1) g i w (altP_fwd hs 0) hs rfl (by omega) (by omega) (fun _ _ => rfl) hi hB (fun h => by omega)
  | n + 1, d, hn, hd, w, i, hi, hB => sAltS (altP false s (n + 1)) s d (d + 1) g i w (altP_fwd hs (n + 1)) hs rfl (by omega) (by omega) (fun h => by omega) hi hB (fun _ => sAlt s g hs n (d + 1) (by omega) (by omega))

end Go.Proofs.YtemlnpncljomgaaGreatDoor
