/- Walk over the reference's SameStmt: are two statements the same. A row has at most 1048576 nodes. -/
import Derived.Test.YtalnkdbmbjplpaaSameSb
import Derived.Test.YtalnkdbmbjplpaaSameE
namespace Go.Proofs.Ytalnkdbmbjplpaa
open Go.RowKit

set_option maxHeartbeats 8000000 in
theorem sSameS_step (K : Nat) (zk : Int) (zs zt : ByteArray) (xx : Fr (Int × Int × ByteArray)) (p q : St) (X P Q : Option Addr) (cx cp cq : Nat) (zk' : Int) (zs' zt' : ByteArray) (xy : Fr (Int × Int × ByteArray)) (p' q' : St) (X' P' Q' : Option Addr) (cx' cp' cq' : Nat) (w : World) (hK : xx.size + p.size + q.size ≤ K) (hl : xx.size + p.size + q.size ≤ 1048576) (hl' : xy.size + p'.size + q'.size ≤ 1048576) (hX : Sl exprC w 0 w.heap.size X xx) (hP : SlS w 0 w.heap.size P p) (hQ : SlS w 0 w.heap.size Q q) (hX' : Sl exprC w 0 w.heap.size X' xy) (hP' : SlS w 0 w.heap.size P' p') (hQ' : SlS w 0 w.heap.size Q' q')
    (ih : ∀ (zk : Int) (zs zt : ByteArray) (x : Fr (Int × Int × ByteArray)) (p q : St) (X P Q : Option Addr) (cx cp cq : Nat), x.size + p.size + q.size < K → ∀ (zk' : Int) (zs' zt' : ByteArray) (x' : Fr (Int × Int × ByteArray)) (p' q' : St) (X' P' Q' : Option Addr) (cx' cp' cq' : Nat), x'.size + p'.size + q'.size ≤ 1048576 → ∀ w, Sl exprC w 0 w.heap.size X x → SlS w 0 w.heap.size P p → SlS w 0 w.heap.size Q q → Sl exprC w 0 w.heap.size X' x' → SlS w 0 w.heap.size P' p' → SlS w 0 w.heap.size Q' q' → Calls Try.prog 11 #[.agg #[.int .i64 zk, .string zs, .string zt, .slice X x.len cx, .slice P p.len cp, .slice Q q.len cq], .agg #[.int .i64 zk', .string zs', .string zt', .slice X' x'.len cx', .slice P' p'.len cp', .slice Q' q'.len cq']] w fun e w' => e = .returned (.bool (labS (zk, zs, zt) (zk', zs', zt') && (sameF x x' && (sameS p p' && sameS q q')))) ∧ Below w.heap.size w w') :
    Calls Try.prog 11 #[.agg #[.int .i64 zk, .string zs, .string zt, .slice X xx.len cx, .slice P p.len cp, .slice Q q.len cq], .agg #[.int .i64 zk', .string zs', .string zt', .slice X' xy.len cx', .slice P' p'.len cp', .slice Q' q'.len cq']] w fun e w' => e = .returned (.bool (labS (zk, zs, zt) (zk', zs', zt') && (sameF xx xy && (sameS p p' && sameS q q')))) ∧ Below w.heap.size w w' := by
  have hq : labS (zk, zs, zt) (zk', zs', zt') = (zk == zk' && zs.toList == zs'.toList && zt.toList == zt'.toList) := rfl
  by_cases h1 : zk = zk'
  case neg =>
    have g1 : (zk == zk') = false := by simp [h1]
    have g2 : (zk != zk') = true := by simp [h1]
    rw [hq, g1, Bool.false_and, Bool.false_and, Bool.false_and]
    go_enter Try.func11, Try.ntmps11
    go_wp2_with fail
    go_ret
    exact ⟨rfl, by repeat (first | exact Below.refl _ _ | refine bl_drewN ?_ _ | refine Below.drew ?_ | refine bl_alloc ?_ _ | refine bl_set ?_ (by simp) _ | refine bl_trans ?_ (by assumption))⟩
  subst h1
  cases h2 : (zs.toList == zs'.toList)
  case false =>
    rw [hq, h2, Bool.and_false, Bool.false_and, Bool.false_and]
    go_enter Try.func11, Try.ntmps11
    go_wp2_with fail
    go_ret
    exact ⟨rfl, by repeat (first | exact Below.refl _ _ | refine bl_drewN ?_ _ | refine Below.drew ?_ | refine bl_alloc ?_ _ | refine bl_set ?_ (by simp) _ | refine bl_trans ?_ (by assumption))⟩
  cases h3 : (zt.toList == zt'.toList)
  case false =>
    rw [hq, h3, Bool.and_false, Bool.false_and]
    go_enter Try.func11, Try.ntmps11
    go_wp2_with fail
    go_ret
    exact ⟨rfl, by repeat (first | exact Below.refl _ _ | refine bl_drewN ?_ _ | refine Below.drew ?_ | refine bl_alloc ?_ _ | refine bl_set ?_ (by simp) _ | refine bl_trans ?_ (by assumption))⟩
  rw [hq, h2, h3, beq_self_eq_true]
  simp only [Bool.true_and]
  by_cases h4 : xx.len = xy.len
  case neg =>
    have g2 : ((xx.len : Int) != xy.len) = true := by simp; omega
    rw [sameF_len xx xy h4, Bool.false_and]
    go_enter Try.func11, Try.ntmps11
    go_wp2_with fail
    go_ret
    exact ⟨rfl, by repeat (first | exact Below.refl _ _ | refine bl_drewN ?_ _ | refine Below.drew ?_ | refine bl_alloc ?_ _ | refine bl_set ?_ (by simp) _ | refine bl_trans ?_ (by assumption))⟩
  have g4 : ((xx.len : Int) != xy.len) = false := by simp; omega
  have hlen := xx.len_size
  have H4 := Lib.hid h4
  have B1 := (Blk.new w 31 #[.int .i64 zk, .string zs, .string zt, .slice X xx.len cx, .slice P p.len cp, .slice Q q.len cq]).alloc (.cells #[.int .i64 zk, .string zs', .string zt', .slice X' xy.len cx', .slice P' p'.len cp', .slice Q' q'.len cq'] 31)
  have B2 := Blk.new2 w (.cells #[.int .i64 zk, .string zs, .string zt, .slice X xx.len cx, .slice P p.len cp, .slice Q q.len cq] 31) 31 #[.int .i64 zk, .string zs', .string zt', .slice X' xy.len cx', .slice P' p'.len cp', .slice Q' q'.len cq']
  have L0 := bl_alloc (bl_alloc (Below.refl w.heap.size w) (.cells #[.int .i64 zk, .string zs, .string zt, .slice X xx.len cx, .slice P p.len cp, .slice Q q.len cq] 31)) (.cells #[.int .i64 zk, .string zs', .string zt', .slice X' xy.len cx', .slice P' p'.len cp', .slice Q' q'.len cq'] 31)
  obtain ⟨R, hR⟩ : ∃ R, sameF xx xy = R := ⟨_, rfl⟩
  rw [hR]
  have HR := Lib.hid hR
  have cU := fun w h h' => sBlock_step p.size p p' P P' cp cp' w (Nat.le_refl _) (by omega) (by omega) h h' (fun a b c d e f g h i j k l hs => ih a b c d e f g h i j k l (by omega))
  have cV := fun w h h' => sBlock_step q.size q q' Q Q' cq cq' w (Nat.le_refl _) (by omega) (by omega) h h' (fun a b c d e f g h i j k l hs => ih a b c d e f g h i j k l (by omega))
  generalize sameS p p' = U at cU ⊢
  generalize sameS q q' = V at cV ⊢
  have CU := Lib.hid cU
  have CV := Lib.hid cV
  clear hR ih h4 hq cU cV
  go_enter Try.func11, Try.ntmps11
  go_wp2_with fail
  go_loopw [5] (fun i wr => ∃ k : Nat, k ≤ xx.len ∧ i = .int .i64 k ∧ sameF (xx.drop k) (xy.drop k) = R ∧ Blk wr w.heap.size 31 #[.int .i64 zk, .string zs, .string zt, .slice X xx.len cx, .slice P p.len cp, .slice Q q.len cq] ∧ Blk wr (w.heap.size + 1) 31 #[.int .i64 zk, .string zs', .string zt', .slice X' xy.len cx', .slice P' p'.len cp', .slice Q' q'.len cq'] ∧ Below w.heap.size w wr) (fun i _ => xx.len - (intOf i).toNat)
  case atStart => exact ⟨0, Nat.zero_le _, rfl, by rw [Fr.drop_zero, Fr.drop_zero]; exact HR.out, B1, B2, L0⟩
  case round =>
    obtain ⟨k, hk, rfl, hE, hB1, hB2, hL⟩ := hrel
    have cb1 := hB1.cell
    have cb2 := hB2.cell
    by_cases hlt : k < xx.len
    · obtain ⟨b, o, a, k1, A1, c1, rfl, hb, hd, hks1, hS1, q0, q1, q2, q3⟩ := at_Expr (hX.below hL (Nat.le_refl _)) hlt
      obtain ⟨b2, o2, a2, k2, A2, c2, rfl, hb2, hd2, hks2, hS2, r0, r1, r2, r3⟩ := at_Expr (hX'.below hL (Nat.le_refl _)) (i := k) (by have := H4.out; omega)
      obtain ⟨yk, yn, ys⟩ := a
      obtain ⟨vk, vn, vs⟩ := a2
      simp only at q0 q1 q2 r0 r1 r2
      have hlt' : (k : Int) < (xx.len : Int) := by omega
      have hlt2 : (k : Int) < (xy.len : Int) := by have := H4.out; omega
      have hbb : b < wr.heap.size := Nat.lt_of_lt_of_le hb hL.size
      have hbb2 : b2 < wr.heap.size := Nat.lt_of_lt_of_le hb2 hL.size
      have cZ := fun w h h' => sSame_any k1.size k1 (Nat.le_refl _) (by omega) yk yn ys A1 c1 vk vn vs k2 A2 c2 w (by omega) h h'
      obtain ⟨z, hz⟩ : ∃ z, (labB (yk, yn, ys) (vk, vn, vs) && sameF k1 k2) = z := ⟨_, rfl⟩
      rw [hz] at cZ
      have CZ := Lib.hid cZ
      clear cZ
      cases z
      · rw [sameF_drop_no hd hd2 hz] at hE
        subst hE
        clear hd hd2 HR hz
        go_wp2_with fail
        refine wp_region_held_drew (S := (fun x => (Blk x w.heap.size 31 #[.int .i64 zk, .string zs, .string zt, .slice (some ⟨b, o, none⟩) xx.len cx, .slice P p.len cp, .slice Q q.len cq] ∧ Blk x (w.heap.size + 1) 31 #[.int .i64 zk, .string zs', .string zt', .slice (some ⟨b2, o2, none⟩) xy.len cx', .slice P' p'.len cp', .slice Q' q'.len cq']) ∧ (x.cell? ⟨b, o + k * 4, none⟩ = some (.int .i64 yk) ∧ x.cell? ⟨b, o + k * 4 + 1, none⟩ = some (.int .i64 yn) ∧ x.cell? ⟨b, o + k * 4 + 2, none⟩ = some (.string ys) ∧ x.cell? ⟨b, o + k * 4 + 3, none⟩ = some (.slice A1 k1.len c1)) ∧ (x.cell? ⟨b2, o2 + k * 4, none⟩ = some (.int .i64 vk) ∧ x.cell? ⟨b2, o2 + k * 4 + 1, none⟩ = some (.int .i64 vn) ∧ x.cell? ⟨b2, o2 + k * 4 + 2, none⟩ = some (.string vs) ∧ x.cell? ⟨b2, o2 + k * 4 + 3, none⟩ = some (.slice A2 k2.len c2)) ∧ Sl exprC x 0 wr.heap.size A1 k1 ∧ Sl exprC x 0 wr.heap.size A2 k2 ∧ wr.heap.size ≤ x.heap.size)) (by kernel_rfl) ?_ (fun hHeld => ?_)
        · exact ⟨⟨hB1.drew, hB2.drew⟩, ⟨q0, q1, q2, q3⟩, ⟨r0, r1, r2, r3⟩, hS1.keep (fun _ _ _ => rfl) (Nat.le_refl _) hL.size, hS2.keep (fun _ _ _ => rfl) (Nat.le_refl _) hL.size, Nat.le_refl _⟩
        refine wpAnyH_take (i := 0) (oi := ⟨some 41, _, _, _, _, _⟩) (v := ?_) rfl (by kernel_rfl) (by kernel_rfl) (by kernel_rfl) (fun _ _ _ h => h) (Or.inl ⟨by rfl, ?_⟩) (by assumption) ?_
        case refine_2 => (intro w hSw; obtain ⟨⟨hx1, hx2⟩, ⟨p0, p1, p2, p3⟩, ⟨u0, u1, u2, u3⟩, _, _, _⟩ := hSw; have d1 := hx1.cell; have d2 := hx2.cell; go_simp; first | done | with_reducible rfl)
        simp only [Act.put, List.setIfInBounds_toArray, List.set_cons_zero, List.set_cons_succ]
        refine wpAnyH_take (i := 1) (oi := ⟨some 42, _, _, _, _, _⟩) (v := ?_) rfl (by kernel_rfl) (by kernel_rfl) (by kernel_rfl) (fun _ _ _ h => h) (Or.inl ⟨by rfl, ?_⟩) (by assumption) ?_
        case refine_2 => (intro w hSw; obtain ⟨⟨hx1, hx2⟩, ⟨p0, p1, p2, p3⟩, ⟨u0, u1, u2, u3⟩, _, _, _⟩ := hSw; have d1 := hx1.cell; have d2 := hx2.cell; go_simp; first | done | with_reducible rfl)
        simp only [Act.put, List.setIfInBounds_toArray, List.set_cons_zero, List.set_cons_succ]
        refine wpAnyH_take (i := 2) (oi := ⟨some 43, _, _, _, _, _⟩) (v := ?_) rfl (by kernel_rfl) (by kernel_rfl) (by kernel_rfl) (fun _ _ _ h => h) (Or.inl ⟨by rfl, ?_⟩) (by assumption) ?_
        case refine_2 => (intro w hSw; obtain ⟨⟨hx1, hx2⟩, ⟨p0, p1, p2, p3⟩, ⟨u0, u1, u2, u3⟩, _, _, _⟩ := hSw; have d1 := hx1.cell; have d2 := hx2.cell; go_simp; first | done | with_reducible rfl)
        simp only [Act.put, List.setIfInBounds_toArray, List.set_cons_zero, List.set_cons_succ]
        refine wpAnyH_take (i := 3) (oi := ⟨some 44, _, _, _, _, _⟩) (v := ?_) rfl (by kernel_rfl) (by kernel_rfl) (by kernel_rfl) (fun _ _ _ h => h) (Or.inl ⟨by rfl, ?_⟩) (by assumption) ?_
        case refine_2 => (intro w hSw; obtain ⟨⟨hx1, hx2⟩, ⟨p0, p1, p2, p3⟩, ⟨u0, u1, u2, u3⟩, _, _, _⟩ := hSw; have d1 := hx1.cell; have d2 := hx2.cell; go_simp; first | done | with_reducible rfl)
        simp only [Act.put, List.setIfInBounds_toArray, List.set_cons_zero, List.set_cons_succ]
        refine wpAnyH_take (i := 4) (oi := ⟨some 45, _, _, _, _, _⟩) (v := ?_) rfl (by kernel_rfl) (by kernel_rfl) (by kernel_rfl) (fun _ _ _ h => h) (Or.inl ⟨by rfl, ?_⟩) (by assumption) ?_
        case refine_2 => (intro w hSw; obtain ⟨⟨hx1, hx2⟩, ⟨p0, p1, p2, p3⟩, ⟨u0, u1, u2, u3⟩, _, _, _⟩ := hSw; have d1 := hx1.cell; have d2 := hx2.cell; go_simp; first | done | with_reducible rfl)
        simp only [Act.put, List.setIfInBounds_toArray, List.set_cons_zero, List.set_cons_succ]
        refine wpAnyH_take (i := 5) (oi := ⟨some 46, _, _, _, _, _⟩) (v := ?_) rfl (by kernel_rfl) (by kernel_rfl) (by kernel_rfl) (fun _ _ _ h => h) (Or.inl ⟨by rfl, ?_⟩) (by assumption) ?_
        case refine_2 => (intro w hSw; obtain ⟨⟨hx1, hx2⟩, ⟨p0, p1, p2, p3⟩, ⟨u0, u1, u2, u3⟩, _, _, _⟩ := hSw; have d1 := hx1.cell; have d2 := hx2.cell; go_simp; first | done | with_reducible rfl)
        simp only [Act.put, List.setIfInBounds_toArray, List.set_cons_zero, List.set_cons_succ]
        refine wpAnyH_take (i := 6) (oi := ⟨some 47, _, _, _, _, _⟩) (v := ?_) rfl (by kernel_rfl) (by kernel_rfl) (by kernel_rfl) (fun _ _ _ h => h) (Or.inl ⟨by rfl, ?_⟩) (by assumption) ?_
        case refine_2 => (intro w hSw; obtain ⟨⟨hx1, hx2⟩, ⟨p0, p1, p2, p3⟩, ⟨u0, u1, u2, u3⟩, _, _, _⟩ := hSw; have d1 := hx1.cell; have d2 := hx2.cell; go_simp; first | done | with_reducible rfl)
        simp only [Act.put, List.setIfInBounds_toArray, List.set_cons_zero, List.set_cons_succ]
        refine wpAnyH_take (i := 7) (oi := ⟨some 48, _, _, _, _, _⟩) (v := ?_) rfl (by kernel_rfl) (by kernel_rfl) (by kernel_rfl) (fun _ _ _ h => h) (Or.inl ⟨by rfl, ?_⟩) (by assumption) ?_
        case refine_2 => (intro w hSw; obtain ⟨⟨hx1, hx2⟩, ⟨p0, p1, p2, p3⟩, ⟨u0, u1, u2, u3⟩, _, _, _⟩ := hSw; have d1 := hx1.cell; have d2 := hx2.cell; go_simp; first | done | with_reducible rfl)
        simp only [Act.put, List.setIfInBounds_toArray, List.set_cons_zero, List.set_cons_succ]
        refine wpAnyH_take (i := 8) (oi := ⟨some 49, _, _, _, _, _⟩) (v := ?_) rfl (by kernel_rfl) (by kernel_rfl) (by kernel_rfl) (fun _ _ _ h => h) (Or.inl ⟨by rfl, ?_⟩) (by assumption) ?_
        case refine_2 => (intro w hSw; obtain ⟨⟨hx1, hx2⟩, ⟨p0, p1, p2, p3⟩, ⟨u0, u1, u2, u3⟩, _, _, _⟩ := hSw; have d1 := hx1.cell; have d2 := hx2.cell; go_simp; first | done | with_reducible rfl)
        simp only [Act.put, List.setIfInBounds_toArray, List.set_cons_zero, List.set_cons_succ]
        refine wpAnyH_take (i := 9) (oi := ⟨some 50, _, _, _, _, _⟩) (v := ?_) rfl (by kernel_rfl) (by kernel_rfl) (by kernel_rfl) (fun _ _ _ h => h) (Or.inl ⟨by rfl, ?_⟩) (by assumption) ?_
        case refine_2 => (intro w hSw; obtain ⟨⟨hx1, hx2⟩, ⟨p0, p1, p2, p3⟩, ⟨u0, u1, u2, u3⟩, _, _, _⟩ := hSw; have d1 := hx1.cell; have d2 := hx2.cell; go_simp; first | done | with_reducible rfl)
        simp only [Act.put, List.setIfInBounds_toArray, List.set_cons_zero, List.set_cons_succ]
        refine wpAnyH_ready (rs := [10]) (by kernel_rfl) (by simp) ?_
        refine AllReadyH.cons (o := ⟨some 51, _, _, _, _, _⟩) rfl (fun K hK => ?_) AllReadyH.nil
        go_simp
        refine (CZ.out _ (hHeld.2.2.2.1.more (Nat.le_refl _) hHeld.2.2.2.2.2) (hHeld.2.2.2.2.1.more (Nat.le_refl _) hHeld.2.2.2.2.2)).mono ?_; rintro e w1 ⟨rfl, b1⟩
        go_wp2_with fail
        refine hK.out _ _ (⟨⟨hHeld.1.1.keep b1, hHeld.1.2.keep b1⟩, ⟨(b1.cell (Nat.lt_of_lt_of_le hbb hHeld.2.2.2.2.2)).trans hHeld.2.1.1, (b1.cell (Nat.lt_of_lt_of_le hbb hHeld.2.2.2.2.2)).trans hHeld.2.1.2.1, (b1.cell (Nat.lt_of_lt_of_le hbb hHeld.2.2.2.2.2)).trans hHeld.2.1.2.2.1, (b1.cell (Nat.lt_of_lt_of_le hbb hHeld.2.2.2.2.2)).trans hHeld.2.1.2.2.2⟩, ⟨(b1.cell (Nat.lt_of_lt_of_le hbb2 hHeld.2.2.2.2.2)).trans hHeld.2.2.1.1, (b1.cell (Nat.lt_of_lt_of_le hbb2 hHeld.2.2.2.2.2)).trans hHeld.2.2.1.2.1, (b1.cell (Nat.lt_of_lt_of_le hbb2 hHeld.2.2.2.2.2)).trans hHeld.2.2.1.2.2.1, (b1.cell (Nat.lt_of_lt_of_le hbb2 hHeld.2.2.2.2.2)).trans hHeld.2.2.1.2.2.2⟩, hHeld.2.2.2.1.below b1 hHeld.2.2.2.2.2, hHeld.2.2.2.2.1.below b1 hHeld.2.2.2.2.2, Nat.le_trans hHeld.2.2.2.2.2 b1.size⟩) (fun hHeld => ?_)
        clear hK K
        try simp only [Act.put, List.setIfInBounds_toArray, List.set_cons_zero, List.set_cons_succ]
        refine wpAnyH_take (i := 11) (oi := ⟨some 52, _, _, _, _, _⟩) (v := ?_) rfl (by kernel_rfl) (by kernel_rfl) (by kernel_rfl) (fun _ _ _ h => h) (Or.inl ⟨by rfl, ?_⟩) (by assumption) ?_
        case refine_2 => (intro w hSw; skip; go_simp; first | done | with_reducible rfl)
        simp only [Act.put, List.setIfInBounds_toArray, List.set_cons_zero, List.set_cons_succ]
        refine wpAnyH_done (by kernel_rfl) ?_ _
        go_wp2_with fail
        go_ret
        exact ⟨rfl, bl_trans hL.drew b1⟩
      · have HE := Lib.hid ((sameF_drop_yes hd hd2 hz).symm.trans hE)
        clear hd hd2 HR hz hE
        go_wp2_with fail
        refine wp_region_held_drew (S := (fun x => (Blk x w.heap.size 31 #[.int .i64 zk, .string zs, .string zt, .slice (some ⟨b, o, none⟩) xx.len cx, .slice P p.len cp, .slice Q q.len cq] ∧ Blk x (w.heap.size + 1) 31 #[.int .i64 zk, .string zs', .string zt', .slice (some ⟨b2, o2, none⟩) xy.len cx', .slice P' p'.len cp', .slice Q' q'.len cq']) ∧ (x.cell? ⟨b, o + k * 4, none⟩ = some (.int .i64 yk) ∧ x.cell? ⟨b, o + k * 4 + 1, none⟩ = some (.int .i64 yn) ∧ x.cell? ⟨b, o + k * 4 + 2, none⟩ = some (.string ys) ∧ x.cell? ⟨b, o + k * 4 + 3, none⟩ = some (.slice A1 k1.len c1)) ∧ (x.cell? ⟨b2, o2 + k * 4, none⟩ = some (.int .i64 vk) ∧ x.cell? ⟨b2, o2 + k * 4 + 1, none⟩ = some (.int .i64 vn) ∧ x.cell? ⟨b2, o2 + k * 4 + 2, none⟩ = some (.string vs) ∧ x.cell? ⟨b2, o2 + k * 4 + 3, none⟩ = some (.slice A2 k2.len c2)) ∧ Sl exprC x 0 wr.heap.size A1 k1 ∧ Sl exprC x 0 wr.heap.size A2 k2 ∧ wr.heap.size ≤ x.heap.size)) (by kernel_rfl) ?_ (fun hHeld => ?_)
        · exact ⟨⟨hB1.drew, hB2.drew⟩, ⟨q0, q1, q2, q3⟩, ⟨r0, r1, r2, r3⟩, hS1.keep (fun _ _ _ => rfl) (Nat.le_refl _) hL.size, hS2.keep (fun _ _ _ => rfl) (Nat.le_refl _) hL.size, Nat.le_refl _⟩
        refine wpAnyH_take (i := 0) (oi := ⟨some 41, _, _, _, _, _⟩) (v := ?_) rfl (by kernel_rfl) (by kernel_rfl) (by kernel_rfl) (fun _ _ _ h => h) (Or.inl ⟨by rfl, ?_⟩) (by assumption) ?_
        case refine_2 => (intro w hSw; obtain ⟨⟨hx1, hx2⟩, ⟨p0, p1, p2, p3⟩, ⟨u0, u1, u2, u3⟩, _, _, _⟩ := hSw; have d1 := hx1.cell; have d2 := hx2.cell; go_simp; first | done | with_reducible rfl)
        simp only [Act.put, List.setIfInBounds_toArray, List.set_cons_zero, List.set_cons_succ]
        refine wpAnyH_take (i := 1) (oi := ⟨some 42, _, _, _, _, _⟩) (v := ?_) rfl (by kernel_rfl) (by kernel_rfl) (by kernel_rfl) (fun _ _ _ h => h) (Or.inl ⟨by rfl, ?_⟩) (by assumption) ?_
        case refine_2 => (intro w hSw; obtain ⟨⟨hx1, hx2⟩, ⟨p0, p1, p2, p3⟩, ⟨u0, u1, u2, u3⟩, _, _, _⟩ := hSw; have d1 := hx1.cell; have d2 := hx2.cell; go_simp; first | done | with_reducible rfl)
        simp only [Act.put, List.setIfInBounds_toArray, List.set_cons_zero, List.set_cons_succ]
        refine wpAnyH_take (i := 2) (oi := ⟨some 43, _, _, _, _, _⟩) (v := ?_) rfl (by kernel_rfl) (by kernel_rfl) (by kernel_rfl) (fun _ _ _ h => h) (Or.inl ⟨by rfl, ?_⟩) (by assumption) ?_
        case refine_2 => (intro w hSw; obtain ⟨⟨hx1, hx2⟩, ⟨p0, p1, p2, p3⟩, ⟨u0, u1, u2, u3⟩, _, _, _⟩ := hSw; have d1 := hx1.cell; have d2 := hx2.cell; go_simp; first | done | with_reducible rfl)
        simp only [Act.put, List.setIfInBounds_toArray, List.set_cons_zero, List.set_cons_succ]
        refine wpAnyH_take (i := 3) (oi := ⟨some 44, _, _, _, _, _⟩) (v := ?_) rfl (by kernel_rfl) (by kernel_rfl) (by kernel_rfl) (fun _ _ _ h => h) (Or.inl ⟨by rfl, ?_⟩) (by assumption) ?_
        case refine_2 => (intro w hSw; obtain ⟨⟨hx1, hx2⟩, ⟨p0, p1, p2, p3⟩, ⟨u0, u1, u2, u3⟩, _, _, _⟩ := hSw; have d1 := hx1.cell; have d2 := hx2.cell; go_simp; first | done | with_reducible rfl)
        simp only [Act.put, List.setIfInBounds_toArray, List.set_cons_zero, List.set_cons_succ]
        refine wpAnyH_take (i := 4) (oi := ⟨some 45, _, _, _, _, _⟩) (v := ?_) rfl (by kernel_rfl) (by kernel_rfl) (by kernel_rfl) (fun _ _ _ h => h) (Or.inl ⟨by rfl, ?_⟩) (by assumption) ?_
        case refine_2 => (intro w hSw; obtain ⟨⟨hx1, hx2⟩, ⟨p0, p1, p2, p3⟩, ⟨u0, u1, u2, u3⟩, _, _, _⟩ := hSw; have d1 := hx1.cell; have d2 := hx2.cell; go_simp; first | done | with_reducible rfl)
        simp only [Act.put, List.setIfInBounds_toArray, List.set_cons_zero, List.set_cons_succ]
        refine wpAnyH_take (i := 5) (oi := ⟨some 46, _, _, _, _, _⟩) (v := ?_) rfl (by kernel_rfl) (by kernel_rfl) (by kernel_rfl) (fun _ _ _ h => h) (Or.inl ⟨by rfl, ?_⟩) (by assumption) ?_
        case refine_2 => (intro w hSw; obtain ⟨⟨hx1, hx2⟩, ⟨p0, p1, p2, p3⟩, ⟨u0, u1, u2, u3⟩, _, _, _⟩ := hSw; have d1 := hx1.cell; have d2 := hx2.cell; go_simp; first | done | with_reducible rfl)
        simp only [Act.put, List.setIfInBounds_toArray, List.set_cons_zero, List.set_cons_succ]
        refine wpAnyH_take (i := 6) (oi := ⟨some 47, _, _, _, _, _⟩) (v := ?_) rfl (by kernel_rfl) (by kernel_rfl) (by kernel_rfl) (fun _ _ _ h => h) (Or.inl ⟨by rfl, ?_⟩) (by assumption) ?_
        case refine_2 => (intro w hSw; obtain ⟨⟨hx1, hx2⟩, ⟨p0, p1, p2, p3⟩, ⟨u0, u1, u2, u3⟩, _, _, _⟩ := hSw; have d1 := hx1.cell; have d2 := hx2.cell; go_simp; first | done | with_reducible rfl)
        simp only [Act.put, List.setIfInBounds_toArray, List.set_cons_zero, List.set_cons_succ]
        refine wpAnyH_take (i := 7) (oi := ⟨some 48, _, _, _, _, _⟩) (v := ?_) rfl (by kernel_rfl) (by kernel_rfl) (by kernel_rfl) (fun _ _ _ h => h) (Or.inl ⟨by rfl, ?_⟩) (by assumption) ?_
        case refine_2 => (intro w hSw; obtain ⟨⟨hx1, hx2⟩, ⟨p0, p1, p2, p3⟩, ⟨u0, u1, u2, u3⟩, _, _, _⟩ := hSw; have d1 := hx1.cell; have d2 := hx2.cell; go_simp; first | done | with_reducible rfl)
        simp only [Act.put, List.setIfInBounds_toArray, List.set_cons_zero, List.set_cons_succ]
        refine wpAnyH_take (i := 8) (oi := ⟨some 49, _, _, _, _, _⟩) (v := ?_) rfl (by kernel_rfl) (by kernel_rfl) (by kernel_rfl) (fun _ _ _ h => h) (Or.inl ⟨by rfl, ?_⟩) (by assumption) ?_
        case refine_2 => (intro w hSw; obtain ⟨⟨hx1, hx2⟩, ⟨p0, p1, p2, p3⟩, ⟨u0, u1, u2, u3⟩, _, _, _⟩ := hSw; have d1 := hx1.cell; have d2 := hx2.cell; go_simp; first | done | with_reducible rfl)
        simp only [Act.put, List.setIfInBounds_toArray, List.set_cons_zero, List.set_cons_succ]
        refine wpAnyH_take (i := 9) (oi := ⟨some 50, _, _, _, _, _⟩) (v := ?_) rfl (by kernel_rfl) (by kernel_rfl) (by kernel_rfl) (fun _ _ _ h => h) (Or.inl ⟨by rfl, ?_⟩) (by assumption) ?_
        case refine_2 => (intro w hSw; obtain ⟨⟨hx1, hx2⟩, ⟨p0, p1, p2, p3⟩, ⟨u0, u1, u2, u3⟩, _, _, _⟩ := hSw; have d1 := hx1.cell; have d2 := hx2.cell; go_simp; first | done | with_reducible rfl)
        simp only [Act.put, List.setIfInBounds_toArray, List.set_cons_zero, List.set_cons_succ]
        refine wpAnyH_ready (rs := [10]) (by kernel_rfl) (by simp) ?_
        refine AllReadyH.cons (o := ⟨some 51, _, _, _, _, _⟩) rfl (fun K hK => ?_) AllReadyH.nil
        go_simp
        refine (CZ.out _ (hHeld.2.2.2.1.more (Nat.le_refl _) hHeld.2.2.2.2.2) (hHeld.2.2.2.2.1.more (Nat.le_refl _) hHeld.2.2.2.2.2)).mono ?_; rintro e w1 ⟨rfl, b1⟩
        go_wp2_with fail
        refine hK.out _ _ (⟨⟨hHeld.1.1.keep b1, hHeld.1.2.keep b1⟩, ⟨(b1.cell (Nat.lt_of_lt_of_le hbb hHeld.2.2.2.2.2)).trans hHeld.2.1.1, (b1.cell (Nat.lt_of_lt_of_le hbb hHeld.2.2.2.2.2)).trans hHeld.2.1.2.1, (b1.cell (Nat.lt_of_lt_of_le hbb hHeld.2.2.2.2.2)).trans hHeld.2.1.2.2.1, (b1.cell (Nat.lt_of_lt_of_le hbb hHeld.2.2.2.2.2)).trans hHeld.2.1.2.2.2⟩, ⟨(b1.cell (Nat.lt_of_lt_of_le hbb2 hHeld.2.2.2.2.2)).trans hHeld.2.2.1.1, (b1.cell (Nat.lt_of_lt_of_le hbb2 hHeld.2.2.2.2.2)).trans hHeld.2.2.1.2.1, (b1.cell (Nat.lt_of_lt_of_le hbb2 hHeld.2.2.2.2.2)).trans hHeld.2.2.1.2.2.1, (b1.cell (Nat.lt_of_lt_of_le hbb2 hHeld.2.2.2.2.2)).trans hHeld.2.2.1.2.2.2⟩, hHeld.2.2.2.1.below b1 hHeld.2.2.2.2.2, hHeld.2.2.2.2.1.below b1 hHeld.2.2.2.2.2, Nat.le_trans hHeld.2.2.2.2.2 b1.size⟩) (fun hHeld => ?_)
        clear hK K
        try simp only [Act.put, List.setIfInBounds_toArray, List.set_cons_zero, List.set_cons_succ]
        refine wpAnyH_take (i := 11) (oi := ⟨some 52, _, _, _, _, _⟩) (v := ?_) rfl (by kernel_rfl) (by kernel_rfl) (by kernel_rfl) (fun _ _ _ h => h) (Or.inl ⟨by rfl, ?_⟩) (by assumption) ?_
        case refine_2 => (intro w hSw; skip; go_simp; first | done | with_reducible rfl)
        simp only [Act.put, List.setIfInBounds_toArray, List.set_cons_zero, List.set_cons_succ]
        refine wpAnyH_done (by kernel_rfl) ?_ _
        go_wp2_with fail
        go_roundw
        case rel => exact ⟨k + 1, by omega, by go_num, HE.out, hHeld.1.1, hHeld.1.2, bl_trans hL.drew b1⟩
        case measure => simp [intOf]; omega
    · obtain rfl : k = xx.len := by omega
      rw [sameF_end H4.out] at hE
      subst hE
      clear HR
      cases U
      · go_wp2_with fail
        refine (CU.out _ ((hP.below hL (Nat.le_refl _)).more (Nat.le_refl _) hL.size) ((hP'.below hL (Nat.le_refl _)).more (Nat.le_refl _) hL.size)).mono ?_; rintro e w1 ⟨rfl, b1⟩
        go_wp2_with fail
        go_ret
        exact ⟨rfl, bl_trans hL b1⟩
      · go_wp2_with fail
        refine (CU.out _ ((hP.below hL (Nat.le_refl _)).more (Nat.le_refl _) hL.size) ((hP'.below hL (Nat.le_refl _)).more (Nat.le_refl _) hL.size)).mono ?_; rintro e w1 ⟨rfl, b1⟩
        have L1 := bl_trans hL b1
        have d1 := (hB1.keep b1).cell
        have d2 := (hB2.keep b1).cell
        clear cb1 cb2
        go_wp2_with fail
        refine (CV.out _ ((hQ.below L1 (Nat.le_refl _)).more (Nat.le_refl _) L1.size) ((hQ'.below L1 (Nat.le_refl _)).more (Nat.le_refl _) L1.size)).mono ?_; rintro e w2 ⟨rfl, b2⟩
        go_wp2_with fail
        go_ret
        exact ⟨rfl, bl_trans L1 b2⟩

theorem sSameS_any (K : Nat) : ∀ (zk : Int) (zs zt : ByteArray) (x : Fr (Int × Int × ByteArray)) (p q : St) (X P Q : Option Addr) (cx cp cq : Nat), x.size + p.size + q.size ≤ K → K ≤ 1048576 → ∀ (zk' : Int) (zs' zt' : ByteArray) (x' : Fr (Int × Int × ByteArray)) (p' q' : St) (X' P' Q' : Option Addr) (cx' cp' cq' : Nat), x'.size + p'.size + q'.size ≤ 1048576 → ∀ w, Sl exprC w 0 w.heap.size X x → SlS w 0 w.heap.size P p → SlS w 0 w.heap.size Q q → Sl exprC w 0 w.heap.size X' x' → SlS w 0 w.heap.size P' p' → SlS w 0 w.heap.size Q' q' → Calls Try.prog 11 #[.agg #[.int .i64 zk, .string zs, .string zt, .slice X x.len cx, .slice P p.len cp, .slice Q q.len cq], .agg #[.int .i64 zk', .string zs', .string zt', .slice X' x'.len cx', .slice P' p'.len cp', .slice Q' q'.len cq']] w fun e w' => e = .returned (.bool (labS (zk, zs, zt) (zk', zs', zt') && (sameF x x' && (sameS p p' && sameS q q')))) ∧ Below w.heap.size w w' := by
  induction K with
  | zero =>
    intro zk zs zt x p q X P Q cx cp cq hK _ zk' zs' zt' x' p' q' X' P' Q' cx' cp' cq' hl' w g1 g2 g3 g4 g5 g6
    exact sSameS_step 0 zk zs zt x p q X P Q cx cp cq zk' zs' zt' x' p' q' X' P' Q' cx' cp' cq' w hK (by omega) hl' g1 g2 g3 g4 g5 g6 (fun a b c d e f g h i j k l hs => by omega)
  | succ K ih =>
    intro zk zs zt x p q X P Q cx cp cq hK hb zk' zs' zt' x' p' q' X' P' Q' cx' cp' cq' hl' w g1 g2 g3 g4 g5 g6
    exact sSameS_step (K + 1) zk zs zt x p q X P Q cx cp cq zk' zs' zt' x' p' q' X' P' Q' cx' cp' cq' w hK (by omega) hl' g1 g2 g3 g4 g5 g6 (fun a b c d e f g h i j k l hs => ih a b c d e f g h i j k l (by omega) (by omega))

end Go.Proofs.Ytalnkdbmbjplpaa
