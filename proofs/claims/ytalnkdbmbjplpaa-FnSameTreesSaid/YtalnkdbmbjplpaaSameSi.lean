/- Walk over the program's SameStmt: are two statements the same. A row has at most 1048576 nodes. -/
import Derived.Test.YtalnkdbmbjplpaaSameS
import Derived.Test.YtalnkdbmbjplpaaSameEI
namespace Go.Proofs.Ytalnkdbmbjplpaa
open Go.RowKit

set_option maxHeartbeats 4000000 in
theorem iEqualS_step (K : Nat) (x y : St) (A A' : Option Addr) (c c' : Nat) (w : World) (hK : x.size ≤ K) (hl : x.size ≤ 1048576) (hl2 : y.size ≤ 1048576) (hS : SlS w 0 w.heap.size A x) (hS' : SlS w 0 w.heap.size A' y)
    (ih : ∀ (zk : Int) (zs zt : ByteArray) (x : Fr (Int × Int × ByteArray)) (p q : St) (X P Q : Option Addr) (cx cp cq : Nat), x.size + p.size + q.size < K → ∀ (zk' : Int) (zs' zt' : ByteArray) (x' : Fr (Int × Int × ByteArray)) (p' q' : St) (X' P' Q' : Option Addr) (cx' cp' cq' : Nat), x'.size + p'.size + q'.size ≤ 1048576 → ∀ w, Sl exprC w 0 w.heap.size X x → SlS w 0 w.heap.size P p → SlS w 0 w.heap.size Q q → Sl exprC w 0 w.heap.size X' x' → SlS w 0 w.heap.size P' p' → SlS w 0 w.heap.size Q' q' → Calls Try.prog 10 #[.agg #[.int .i64 zk, .string zs, .string zt, .slice X x.len cx, .slice P p.len cp, .slice Q q.len cq], .agg #[.int .i64 zk', .string zs', .string zt', .slice X' x'.len cx', .slice P' p'.len cp', .slice Q' q'.len cq']] w fun e w' => e = .returned (.bool (labS (zk, zs, zt) (zk', zs', zt') && (sameF x x' && (sameS p p' && sameS q q')))) ∧ Below w.heap.size w w') :
    Calls Try.prog 21 #[.slice A x.len c, .slice A' y.len c', .func (.func 10) #[] #[]] w fun e w' => e = .returned (.bool (sameS x y)) ∧ Below w.heap.size w w' := by
  have IHH := Lib.hid ih
  clear ih
  by_cases h4 : x.len = y.len
  case neg =>
    have g2 : ((x.len : Int) != y.len) = true := by simp; omega
    rw [sameS_len x y h4]
    go_enter Try.func21, Try.ntmps21
    go_wp2_with fail
    go_ret
    exact ⟨rfl, Below.refl _ _⟩
  have g4 : ((x.len : Int) != y.len) = false := by simp; omega
  have hlen := x.len_size
  have H4 := Lib.hid h4
  obtain ⟨R, hR⟩ : ∃ R, sameS x y = R := ⟨_, rfl⟩
  rw [hR]
  have HR := Lib.hid hR
  clear hR h4
  go_enter Try.func21, Try.ntmps21
  go_wp2_with fail
  go_loopw [17] (fun i wr => ∃ k : Nat, k ≤ x.len ∧ i = .int .i64 k ∧ sameS (x.drop k) (y.drop k) = R ∧ Below w.heap.size w wr) (fun i _ => x.len - (intOf i).toNat)
  case atStart => exact ⟨0, Nat.zero_le _, rfl, by rw [St.drop_zero, St.drop_zero]; exact HR.out, Below.refl _ _⟩
  case round =>
    obtain ⟨k, hk, rfl, hE, hL⟩ := hrel
    by_cases hlt : k < x.len
    · obtain ⟨b, o, a, t, p, q, X, cx, P, cp, Q, cq, rfl, _, hb, hd, hks, ⟨hX, hP, hQ⟩, q0, q1, q2, q3, q4, q5⟩ := (hS.below hL (Nat.le_refl _)).at_ hlt
      obtain ⟨b2, o2, a2, t', p', q', X', cx', P', cp', Q', cq', rfl, _, hb2, hd2, hks2, ⟨hX', hP', hQ'⟩, r0, r1, r2, r3, r4, r5⟩ := (hS'.below hL (Nat.le_refl _)).at_ (i := k) (by have := H4.out; omega)
      obtain ⟨zk, zs, zt⟩ := a
      obtain ⟨zk', zs', zt'⟩ := a2
      simp only at q0 q1 q2 r0 r1 r2
      have hlt' : (k : Int) < (x.len : Int) := by omega
      have hlt2 : (k : Int) < (y.len : Int) := by have := H4.out; omega
      have L1 := bl_alloc (bl_alloc hL (.cells #[.int .i64 zk, .string zs, .string zt, .slice X t.len cx, .slice P p.len cp, .slice Q q.len cq] 31)) (.cells #[.int .i64 zk', .string zs', .string zt', .slice X' t'.len cx', .slice P' p'.len cp', .slice Q' q'.len cq'] 31)
      have hbb2 : b2 < wr.heap.size := Nat.lt_of_lt_of_le hb2 hL.size
      have fa := fun (ad : Addr) (h : ad.block < wr.heap.size) => World.cell?_alloc_lt wr (.cells #[.int .i64 zk, .string zs, .string zt, .slice X t.len cx, .slice P p.len cp, .slice Q q.len cq] 31) ad h
      replace r0 := (fa ⟨b2, _, none⟩ hbb2).trans r0
      replace r1 := (fa ⟨b2, _, none⟩ hbb2).trans r1
      replace r2 := (fa ⟨b2, _, none⟩ hbb2).trans r2
      replace r3 := (fa ⟨b2, _, none⟩ hbb2).trans r3
      replace r4 := (fa ⟨b2, _, none⟩ hbb2).trans r4
      replace r5 := (fa ⟨b2, _, none⟩ hbb2).trans r5
      clear fa
      have t1 : Sl exprC ((wr.alloc (.cells #[.int .i64 zk, .string zs, .string zt, .slice X t.len cx, .slice P p.len cp, .slice Q q.len cq] 31)).alloc (.cells #[.int .i64 zk', .string zs', .string zt', .slice X' t'.len cx', .slice P' p'.len cp', .slice Q' q'.len cq'] 31)) 0 _ X t := (hX.below (B := wr.heap.size) (bl_alloc (bl_alloc (Below.refl wr.heap.size wr) _) _) hL.size).more (Nat.le_refl _) L1.size
      have t2 : SlS ((wr.alloc (.cells #[.int .i64 zk, .string zs, .string zt, .slice X t.len cx, .slice P p.len cp, .slice Q q.len cq] 31)).alloc (.cells #[.int .i64 zk', .string zs', .string zt', .slice X' t'.len cx', .slice P' p'.len cp', .slice Q' q'.len cq'] 31)) 0 _ P p := (hP.below (B := wr.heap.size) (bl_alloc (bl_alloc (Below.refl wr.heap.size wr) _) _) hL.size).more (Nat.le_refl _) L1.size
      have t3 : SlS ((wr.alloc (.cells #[.int .i64 zk, .string zs, .string zt, .slice X t.len cx, .slice P p.len cp, .slice Q q.len cq] 31)).alloc (.cells #[.int .i64 zk', .string zs', .string zt', .slice X' t'.len cx', .slice P' p'.len cp', .slice Q' q'.len cq'] 31)) 0 _ Q q := (hQ.below (B := wr.heap.size) (bl_alloc (bl_alloc (Below.refl wr.heap.size wr) _) _) hL.size).more (Nat.le_refl _) L1.size
      have t4 : Sl exprC ((wr.alloc (.cells #[.int .i64 zk, .string zs, .string zt, .slice X t.len cx, .slice P p.len cp, .slice Q q.len cq] 31)).alloc (.cells #[.int .i64 zk', .string zs', .string zt', .slice X' t'.len cx', .slice P' p'.len cp', .slice Q' q'.len cq'] 31)) 0 _ X' t' := (hX'.below (B := wr.heap.size) (bl_alloc (bl_alloc (Below.refl wr.heap.size wr) _) _) hL.size).more (Nat.le_refl _) L1.size
      have t5 : SlS ((wr.alloc (.cells #[.int .i64 zk, .string zs, .string zt, .slice X t.len cx, .slice P p.len cp, .slice Q q.len cq] 31)).alloc (.cells #[.int .i64 zk', .string zs', .string zt', .slice X' t'.len cx', .slice P' p'.len cp', .slice Q' q'.len cq'] 31)) 0 _ P' p' := (hP'.below (B := wr.heap.size) (bl_alloc (bl_alloc (Below.refl wr.heap.size wr) _) _) hL.size).more (Nat.le_refl _) L1.size
      have t6 : SlS ((wr.alloc (.cells #[.int .i64 zk, .string zs, .string zt, .slice X t.len cx, .slice P p.len cp, .slice Q q.len cq] 31)).alloc (.cells #[.int .i64 zk', .string zs', .string zt', .slice X' t'.len cx', .slice P' p'.len cp', .slice Q' q'.len cq'] 31)) 0 _ Q' q' := (hQ'.below (B := wr.heap.size) (bl_alloc (bl_alloc (Below.refl wr.heap.size wr) _) _) hL.size).more (Nat.le_refl _) L1.size
      have cZ := fun w g1 g2 g3 g4 g5 g6 => IHH.out zk zs zt t p q X P Q cx cp cq (by omega) zk' zs' zt' t' p' q' X' P' Q' cx' cp' cq' (by omega) w g1 g2 g3 g4 g5 g6
      obtain ⟨z, hz⟩ : ∃ z, (labS (zk, zs, zt) (zk', zs', zt') && (sameF t t' && (sameS p p' && sameS q q'))) = z := ⟨_, rfl⟩
      rw [hz] at cZ
      have CZ := Lib.hid cZ
      clear cZ
      cases z
      · rw [sameS_drop_no hd hd2 hz] at hE
        subst hE
        clear hd hd2 HR hz
        go_wp2_with fail
        refine (CZ.out _ t1 t2 t3 t4 t5 t6).mono ?_; rintro e w1 ⟨rfl, b1⟩
        go_wp2_with fail
        go_ret
        exact ⟨rfl, bl_trans L1 b1⟩
      · have HE := Lib.hid ((sameS_drop_yes hd hd2 hz).symm.trans hE)
        clear hd hd2 HR hz hE
        go_wp2_with fail
        refine (CZ.out _ t1 t2 t3 t4 t5 t6).mono ?_; rintro e w1 ⟨rfl, b1⟩
        go_wp2_with fail
        go_roundw
        case rel => exact ⟨k + 1, by omega, by go_num, HE.out, bl_trans L1 b1⟩
        case measure => simp [intOf]; omega
    · obtain rfl : k = x.len := by omega
      rw [sameS_end H4.out] at hE
      subst hE
      clear HR
      go_wp2_with fail
      go_ret
      exact ⟨rfl, hL⟩

set_option maxHeartbeats 8000000 in
theorem iSameS_step (K : Nat) (zk : Int) (zs zt : ByteArray) (xx : Fr (Int × Int × ByteArray)) (p q : St) (X P Q : Option Addr) (cx cp cq : Nat) (zk' : Int) (zs' zt' : ByteArray) (xy : Fr (Int × Int × ByteArray)) (p' q' : St) (X' P' Q' : Option Addr) (cx' cp' cq' : Nat) (w : World) (hK : xx.size + p.size + q.size ≤ K) (hl : xx.size + p.size + q.size ≤ 1048576) (hl' : xy.size + p'.size + q'.size ≤ 1048576) (hX : Sl exprC w 0 w.heap.size X xx) (hP : SlS w 0 w.heap.size P p) (hQ : SlS w 0 w.heap.size Q q) (hX' : Sl exprC w 0 w.heap.size X' xy) (hP' : SlS w 0 w.heap.size P' p') (hQ' : SlS w 0 w.heap.size Q' q')
    (ih : ∀ (zk : Int) (zs zt : ByteArray) (x : Fr (Int × Int × ByteArray)) (p q : St) (X P Q : Option Addr) (cx cp cq : Nat), x.size + p.size + q.size < K → ∀ (zk' : Int) (zs' zt' : ByteArray) (x' : Fr (Int × Int × ByteArray)) (p' q' : St) (X' P' Q' : Option Addr) (cx' cp' cq' : Nat), x'.size + p'.size + q'.size ≤ 1048576 → ∀ w, Sl exprC w 0 w.heap.size X x → SlS w 0 w.heap.size P p → SlS w 0 w.heap.size Q q → Sl exprC w 0 w.heap.size X' x' → SlS w 0 w.heap.size P' p' → SlS w 0 w.heap.size Q' q' → Calls Try.prog 10 #[.agg #[.int .i64 zk, .string zs, .string zt, .slice X x.len cx, .slice P p.len cp, .slice Q q.len cq], .agg #[.int .i64 zk', .string zs', .string zt', .slice X' x'.len cx', .slice P' p'.len cp', .slice Q' q'.len cq']] w fun e w' => e = .returned (.bool (labS (zk, zs, zt) (zk', zs', zt') && (sameF x x' && (sameS p p' && sameS q q')))) ∧ Below w.heap.size w w') :
    Calls Try.prog 10 #[.agg #[.int .i64 zk, .string zs, .string zt, .slice X xx.len cx, .slice P p.len cp, .slice Q q.len cq], .agg #[.int .i64 zk', .string zs', .string zt', .slice X' xy.len cx', .slice P' p'.len cp', .slice Q' q'.len cq']] w fun e w' => e = .returned (.bool (labS (zk, zs, zt) (zk', zs', zt') && (sameF xx xy && (sameS p p' && sameS q q')))) ∧ Below w.heap.size w w' := by
  have hq : labS (zk, zs, zt) (zk', zs', zt') = (zk == zk' && zs.toList == zs'.toList && zt.toList == zt'.toList) := rfl
  by_cases h1 : zk = zk'
  case neg =>
    have g1 : (zk == zk') = false := by simp [h1]
    rw [hq, g1, Bool.false_and, Bool.false_and, Bool.false_and]
    go_enter Try.func10, Try.ntmps10
    go_wp2_with fail
    go_ret
    exact ⟨rfl, by repeat (first | exact Below.refl _ _ | refine bl_drewN ?_ _ | refine Below.drew ?_ | refine bl_alloc ?_ _ | refine bl_set ?_ (by simp) _ | refine bl_trans ?_ (by assumption))⟩
  subst h1
  cases h2 : (zs.toList == zs'.toList)
  case false =>
    rw [hq, h2, Bool.and_false, Bool.false_and, Bool.false_and]
    go_enter Try.func10, Try.ntmps10
    go_wp2_with fail
    go_ret
    exact ⟨rfl, by repeat (first | exact Below.refl _ _ | refine bl_drewN ?_ _ | refine Below.drew ?_ | refine bl_alloc ?_ _ | refine bl_set ?_ (by simp) _ | refine bl_trans ?_ (by assumption))⟩
  cases h3 : (zt.toList == zt'.toList)
  case false =>
    rw [hq, h3, Bool.and_false, Bool.false_and]
    go_enter Try.func10, Try.ntmps10
    go_wp2_with fail
    go_ret
    exact ⟨rfl, by repeat (first | exact Below.refl _ _ | refine bl_drewN ?_ _ | refine Below.drew ?_ | refine bl_alloc ?_ _ | refine bl_set ?_ (by simp) _ | refine bl_trans ?_ (by assumption))⟩
  rw [hq, h2, h3, beq_self_eq_true]
  simp only [Bool.true_and]
  have B1 := (Blk.new w 31 #[.int .i64 zk, .string zs, .string zt, .slice X xx.len cx, .slice P p.len cp, .slice Q q.len cq]).alloc (.cells #[.int .i64 zk, .string zs', .string zt', .slice X' xy.len cx', .slice P' p'.len cp', .slice Q' q'.len cq'] 31)
  have B2 := Blk.new2 w (.cells #[.int .i64 zk, .string zs, .string zt, .slice X xx.len cx, .slice P p.len cp, .slice Q q.len cq] 31) 31 #[.int .i64 zk, .string zs', .string zt', .slice X' xy.len cx', .slice P' p'.len cp', .slice Q' q'.len cq']
  have L0 := bl_alloc (bl_alloc (Below.refl w.heap.size w) (.cells #[.int .i64 zk, .string zs, .string zt, .slice X xx.len cx, .slice P p.len cp, .slice Q q.len cq] 31)) (.cells #[.int .i64 zk, .string zs', .string zt', .slice X' xy.len cx', .slice P' p'.len cp', .slice Q' q'.len cq'] 31)
  have cX := iEqual_step xx.size xx xy X X' cx cx' _ (Nat.le_refl _) (by omega) (by omega) ((hX.below L0 (Nat.le_refl _)).more (Nat.le_refl _) L0.size) ((hX'.below L0 (Nat.le_refl _)).more (Nat.le_refl _) L0.size) (fun kids hk zk zn zs A c zk' zn' zs' kids' A' c' w hb g g' => iSame_any kids.size kids (Nat.le_refl _) (by omega) zk zn zs A c zk' zn' zs' kids' A' c' w hb g g')
  have cU := fun w h h' => iEqualS_step p.size p p' P P' cp cp' w (Nat.le_refl _) (by omega) (by omega) h h' (fun a b c d e f g h i j k l hs => ih a b c d e f g h i j k l (by omega))
  have cV := fun w h h' => iEqualS_step q.size q q' Q Q' cq cq' w (Nat.le_refl _) (by omega) (by omega) h h' (fun a b c d e f g h i j k l hs => ih a b c d e f g h i j k l (by omega))
  generalize sameF xx xy = R at cX ⊢
  generalize sameS p p' = U at cU ⊢
  generalize sameS q q' = V at cV ⊢
  have CX := Lib.hid cX
  have CU := Lib.hid cU
  have CV := Lib.hid cV
  clear ih hq cX cU cV
  cases R
  · go_enter Try.func10, Try.ntmps10
    go_wp2_with fail
    refine CX.out.mono ?_; rintro e w1 ⟨rfl, b1⟩
    go_wp2_with fail
    go_ret
    exact ⟨rfl, bl_trans L0 b1⟩
  cases U
  · go_enter Try.func10, Try.ntmps10
    go_wp2_with fail
    refine CX.out.mono ?_; rintro e w1 ⟨rfl, b1⟩
    have L1 := bl_trans L0 b1
    have d1 := (Blk.keep B1 b1).cell
    have d2 := (Blk.keep B2 b1).cell
    go_wp2_with fail
    refine (CU.out _ ((hP.below L1 (Nat.le_refl _)).more (Nat.le_refl _) L1.size) ((hP'.below L1 (Nat.le_refl _)).more (Nat.le_refl _) L1.size)).mono ?_; rintro e w2 ⟨rfl, b2⟩
    go_wp2_with fail
    go_ret
    exact ⟨rfl, bl_trans L1 b2⟩
  · go_enter Try.func10, Try.ntmps10
    go_wp2_with fail
    refine CX.out.mono ?_; rintro e w1 ⟨rfl, b1⟩
    have L1 := bl_trans L0 b1
    replace B1 : Blk w1 w.heap.size _ _ := Blk.keep B1 b1
    replace B2 : Blk w1 (w.heap.size + 1) _ _ := Blk.keep B2 b1
    have d1 := B1.cell
    have d2 := B2.cell
    go_wp2_with fail
    refine (CU.out _ ((hP.below L1 (Nat.le_refl _)).more (Nat.le_refl _) L1.size) ((hP'.below L1 (Nat.le_refl _)).more (Nat.le_refl _) L1.size)).mono ?_; rintro e w2 ⟨rfl, b2⟩
    have L2 := bl_trans L1 b2
    have f1 := (Blk.keep B1 b2).cell
    have f2 := (Blk.keep B2 b2).cell
    clear d1 d2
    go_wp2_with fail
    refine (CV.out _ ((hQ.below L2 (Nat.le_refl _)).more (Nat.le_refl _) L2.size) ((hQ'.below L2 (Nat.le_refl _)).more (Nat.le_refl _) L2.size)).mono ?_; rintro e w3 ⟨rfl, b3⟩
    go_wp2_with fail
    go_ret
    exact ⟨rfl, bl_trans L2 b3⟩

theorem iSameS_any (K : Nat) : ∀ (zk : Int) (zs zt : ByteArray) (x : Fr (Int × Int × ByteArray)) (p q : St) (X P Q : Option Addr) (cx cp cq : Nat), x.size + p.size + q.size ≤ K → K ≤ 1048576 → ∀ (zk' : Int) (zs' zt' : ByteArray) (x' : Fr (Int × Int × ByteArray)) (p' q' : St) (X' P' Q' : Option Addr) (cx' cp' cq' : Nat), x'.size + p'.size + q'.size ≤ 1048576 → ∀ w, Sl exprC w 0 w.heap.size X x → SlS w 0 w.heap.size P p → SlS w 0 w.heap.size Q q → Sl exprC w 0 w.heap.size X' x' → SlS w 0 w.heap.size P' p' → SlS w 0 w.heap.size Q' q' → Calls Try.prog 10 #[.agg #[.int .i64 zk, .string zs, .string zt, .slice X x.len cx, .slice P p.len cp, .slice Q q.len cq], .agg #[.int .i64 zk', .string zs', .string zt', .slice X' x'.len cx', .slice P' p'.len cp', .slice Q' q'.len cq']] w fun e w' => e = .returned (.bool (labS (zk, zs, zt) (zk', zs', zt') && (sameF x x' && (sameS p p' && sameS q q')))) ∧ Below w.heap.size w w' := by
  induction K with
  | zero =>
    intro zk zs zt x p q X P Q cx cp cq hK _ zk' zs' zt' x' p' q' X' P' Q' cx' cp' cq' hl' w g1 g2 g3 g4 g5 g6
    exact iSameS_step 0 zk zs zt x p q X P Q cx cp cq zk' zs' zt' x' p' q' X' P' Q' cx' cp' cq' w hK (by omega) hl' g1 g2 g3 g4 g5 g6 (fun a b c d e f g h i j k l hs => by omega)
  | succ K ih =>
    intro zk zs zt x p q X P Q cx cp cq hK hb zk' zs' zt' x' p' q' X' P' Q' cx' cp' cq' hl' w g1 g2 g3 g4 g5 g6
    exact iSameS_step (K + 1) zk zs zt x p q X P Q cx cp cq zk' zs' zt' x' p' q' X' P' Q' cx' cp' cq' w hK (by omega) hl' g1 g2 g3 g4 g5 g6 (fun a b c d e f g h i j k l hs => ih a b c d e f g h i j k l (by omega) (by omega))

end Go.Proofs.Ytalnkdbmbjplpaa
