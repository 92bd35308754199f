/- Walk over the reference's SameExpr: are two terms the same. A row has at most 1048576 nodes. -/
import Derived.Test.YtalnkdbmbjplpaaSame
import Derived.Deep.RegionHeld3
namespace Go.Proofs.Ytalnkdbmbjplpaa
open Go.RowKit

set_option maxHeartbeats 4000000 in
theorem sSame_step (K : Nat) (zk zn : Int) (zs : ByteArray) (kids : Fr (Int × Int × ByteArray)) (A : Option Addr) (c : Nat) (zk' zn' : Int) (zs' : ByteArray) (kids' : Fr (Int × Int × ByteArray)) (A' : Option Addr) (c' : Nat) (w : World) (hK : kids.size ≤ K) (hl : kids.size ≤ 1048576) (hl' : kids'.size ≤ 1048576) (hS : Sl exprC w 0 w.heap.size A kids) (hS' : Sl exprC w 0 w.heap.size A' kids')
    (ih : ∀ (kids : Fr (Int × Int × ByteArray)), kids.size < K → ∀ (zk zn : Int) (zs : ByteArray) (A : Option Addr) (c : Nat) (zk' zn' : Int) (zs' : ByteArray) (kids' : Fr (Int × Int × ByteArray)) (A' : Option Addr) (c' : Nat) (w : World), kids'.size ≤ 1048576 → Sl exprC w 0 w.heap.size A kids → Sl exprC w 0 w.heap.size A' kids' → Calls Try.prog 9 #[.agg #[.int .i64 zk, .int .i64 zn, .string zs, .slice A kids.len c], .agg #[.int .i64 zk', .int .i64 zn', .string zs', .slice A' kids'.len c']] w fun e w' => e = .returned (.bool (labB (zk, zn, zs) (zk', zn', zs') && sameF kids kids')) ∧ Below w.heap.size w w') :
    Calls Try.prog 9 #[.agg #[.int .i64 zk, .int .i64 zn, .string zs, .slice A kids.len c], .agg #[.int .i64 zk', .int .i64 zn', .string zs', .slice A' kids'.len c']] w fun e w' => e = .returned (.bool (labB (zk, zn, zs) (zk', zn', zs') && sameF kids kids')) ∧ Below w.heap.size w w' := by
  have hq : labB (zk, zn, zs) (zk', zn', zs') = (zk == zk' && zn == zn' && zs.toList == zs'.toList) := rfl
  by_cases h1 : zk = zk'
  case neg =>
    have g1 : (zk == zk') = false := by simp [h1]
    have g2 : (zk != zk') = true := by simp [h1]
    rw [hq, g1, Bool.false_and, Bool.false_and, Bool.false_and]
    go_enter Try.func9, Try.ntmps9
    go_wp2_with fail
    go_ret
    exact ⟨rfl, by repeat (first | exact Below.refl _ _ | refine bl_drewN ?_ _ | refine Below.drew ?_ | refine bl_alloc ?_ _ | refine bl_set ?_ (by simp) _ | refine bl_trans ?_ (by assumption))⟩
  subst h1
  by_cases h2 : zn = zn'
  case neg =>
    have g1 : (zn == zn') = false := by simp [h2]
    have g2 : (zn != zn') = true := by simp [h2]
    rw [hq, g1, Bool.and_false, Bool.false_and, Bool.false_and]
    go_enter Try.func9, Try.ntmps9
    go_wp2_with fail
    go_ret
    exact ⟨rfl, by repeat (first | exact Below.refl _ _ | refine bl_drewN ?_ _ | refine Below.drew ?_ | refine bl_alloc ?_ _ | refine bl_set ?_ (by simp) _ | refine bl_trans ?_ (by assumption))⟩
  subst h2
  cases h3 : (zs.toList == zs'.toList)
  case false =>
    rw [hq, h3, Bool.and_false, Bool.false_and]
    go_enter Try.func9, Try.ntmps9
    go_wp2_with fail
    go_ret
    exact ⟨rfl, by repeat (first | exact Below.refl _ _ | refine bl_drewN ?_ _ | refine Below.drew ?_ | refine bl_alloc ?_ _ | refine bl_set ?_ (by simp) _ | refine bl_trans ?_ (by assumption))⟩
  rw [hq, h3, beq_self_eq_true, beq_self_eq_true]
  simp only [Bool.true_and]
  by_cases h4 : kids.len = kids'.len
  case neg =>
    have g2 : ((kids.len : Int) != kids'.len) = true := by simp; omega
    rw [sameF_len kids kids' h4]
    go_enter Try.func9, Try.ntmps9
    go_wp2_with fail
    go_ret
    exact ⟨rfl, by repeat (first | exact Below.refl _ _ | refine bl_drewN ?_ _ | refine Below.drew ?_ | refine bl_alloc ?_ _ | refine bl_set ?_ (by simp) _ | refine bl_trans ?_ (by assumption))⟩
  have h4' : ((kids.len : Int)) = (kids'.len : Int) := by omega
  have g4 : ((kids.len : Int) != kids'.len) = false := by simp; omega
  have hlen := kids.len_size
  have H4 := Lib.hid h4
  have B1 := (Blk.new w 26 #[.int .i64 zk, .int .i64 zn, .string zs, .slice A kids.len c]).alloc (.cells #[.int .i64 zk, .int .i64 zn, .string zs', .slice A' kids'.len c'] 26)
  have B2 := Blk.new2 w (.cells #[.int .i64 zk, .int .i64 zn, .string zs, .slice A kids.len c] 26) 26 #[.int .i64 zk, .int .i64 zn, .string zs', .slice A' kids'.len c']
  have L0 := bl_alloc (bl_alloc (Below.refl w.heap.size w) (.cells #[.int .i64 zk, .int .i64 zn, .string zs, .slice A kids.len c] 26)) (.cells #[.int .i64 zk, .int .i64 zn, .string zs', .slice A' kids'.len c'] 26)
  obtain ⟨R, hR⟩ : ∃ R, sameF kids kids' = R := ⟨_, rfl⟩
  rw [hR]
  have HR := Lib.hid hR
  have IHH := Lib.hid ih
  clear hR ih h4 h4' hq
  go_enter Try.func9, Try.ntmps9
  go_wp2_with fail
  go_loopw [5] (fun i wr => ∃ k : Nat, k ≤ kids.len ∧ i = .int .i64 k ∧ sameF (kids.drop k) (kids'.drop k) = R ∧ Blk wr w.heap.size 26 #[.int .i64 zk, .int .i64 zn, .string zs, .slice A kids.len c] ∧ Blk wr (w.heap.size + 1) 26 #[.int .i64 zk, .int .i64 zn, .string zs', .slice A' kids'.len c'] ∧ Below w.heap.size w wr) (fun i _ => kids.len - (intOf i).toNat)
  case atStart => exact ⟨0, Nat.zero_le _, rfl, by rw [Fr.drop_zero, Fr.drop_zero]; exact HR.out, B1, B2, L0⟩
  case round =>
    obtain ⟨k, hk, rfl, hE, hB1, hB2, hL⟩ := hrel
    have cb1 := hB1.cell
    have cb2 := hB2.cell
    by_cases hlt : k < kids.len
    · obtain ⟨b, o, a, k1, A1, c1, rfl, hb, hd, hks1, hS1, q0, q1, q2, q3⟩ := at_Expr (hS.below hL (Nat.le_refl _)) hlt
      obtain ⟨b2, o2, a2, k2, A2, c2, rfl, hb2, hd2, hks2, hS2, r0, r1, r2, r3⟩ := at_Expr (hS'.below hL (Nat.le_refl _)) (i := k) (by have := H4.out; omega)
      obtain ⟨yk, yn, ys⟩ := a
      obtain ⟨xk, xn, xs⟩ := a2
      simp only at q0 q1 q2 r0 r1 r2
      have hlt' : (k : Int) < (kids.len : Int) := by omega
      have hlt2 : (k : Int) < (kids'.len : Int) := by have := H4.out; omega
      have hbb : b < wr.heap.size := Nat.lt_of_lt_of_le hb hL.size
      have hbb2 : b2 < wr.heap.size := Nat.lt_of_lt_of_le hb2 hL.size
      have cZ := fun w h h' => IHH.out k1 (by omega) yk yn ys A1 c1 xk xn xs k2 A2 c2 w (by omega) h h'
      obtain ⟨z, hz⟩ : ∃ z, (labB (yk, yn, ys) (xk, xn, xs) && sameF k1 k2) = z := ⟨_, rfl⟩
      rw [hz] at cZ
      have CZ := Lib.hid cZ
      clear cZ
      cases z
      · rw [sameF_drop_no hd hd2 hz] at hE
        subst hE
        clear hd hd2 HR hz
        go_wp2_with fail
        refine wp_region_held_drew (S := (fun x => (Blk x w.heap.size 26 #[.int .i64 zk, .int .i64 zn, .string zs, .slice (some ⟨b, o, none⟩) kids.len c] ∧ Blk x (w.heap.size + 1) 26 #[.int .i64 zk, .int .i64 zn, .string zs', .slice (some ⟨b2, o2, none⟩) kids'.len c']) ∧ (x.cell? ⟨b, o + k * 4, none⟩ = some (.int .i64 yk) ∧ x.cell? ⟨b, o + k * 4 + 1, none⟩ = some (.int .i64 yn) ∧ x.cell? ⟨b, o + k * 4 + 2, none⟩ = some (.string ys) ∧ x.cell? ⟨b, o + k * 4 + 3, none⟩ = some (.slice A1 k1.len c1)) ∧ (x.cell? ⟨b2, o2 + k * 4, none⟩ = some (.int .i64 xk) ∧ x.cell? ⟨b2, o2 + k * 4 + 1, none⟩ = some (.int .i64 xn) ∧ x.cell? ⟨b2, o2 + k * 4 + 2, none⟩ = some (.string xs) ∧ x.cell? ⟨b2, o2 + k * 4 + 3, none⟩ = some (.slice A2 k2.len c2)) ∧ Sl exprC x 0 wr.heap.size A1 k1 ∧ Sl exprC x 0 wr.heap.size A2 k2 ∧ wr.heap.size ≤ x.heap.size)) (by kernel_rfl) ?_ (fun hHeld => ?_)
        · exact ⟨⟨hB1.drew, hB2.drew⟩, ⟨q0, q1, q2, q3⟩, ⟨r0, r1, r2, r3⟩, hS1.keep (fun _ _ _ => rfl) (Nat.le_refl _) hL.size, hS2.keep (fun _ _ _ => rfl) (Nat.le_refl _) hL.size, Nat.le_refl _⟩
        refine wpAnyH_take (i := 0) (oi := ⟨some 41, _, _, _, _, _⟩) (v := ?_) rfl (by kernel_rfl) (by kernel_rfl) (by kernel_rfl) (fun _ _ _ h => h) (Or.inl ⟨by rfl, ?_⟩) (by assumption) ?_
        case refine_2 => (intro w hSw; obtain ⟨⟨hx1, hx2⟩, ⟨p0, p1, p2, p3⟩, ⟨u0, u1, u2, u3⟩, _, _, _⟩ := hSw; have d1 := hx1.cell; have d2 := hx2.cell; go_simp; first | done | with_reducible rfl)
        simp only [Act.put, List.setIfInBounds_toArray, List.set_cons_zero, List.set_cons_succ]
        refine wpAnyH_take (i := 1) (oi := ⟨some 42, _, _, _, _, _⟩) (v := ?_) rfl (by kernel_rfl) (by kernel_rfl) (by kernel_rfl) (fun _ _ _ h => h) (Or.inl ⟨by rfl, ?_⟩) (by assumption) ?_
        case refine_2 => (intro w hSw; obtain ⟨⟨hx1, hx2⟩, ⟨p0, p1, p2, p3⟩, ⟨u0, u1, u2, u3⟩, _, _, _⟩ := hSw; have d1 := hx1.cell; have d2 := hx2.cell; go_simp; first | done | with_reducible rfl)
        simp only [Act.put, List.setIfInBounds_toArray, List.set_cons_zero, List.set_cons_succ]
        refine wpAnyH_take (i := 2) (oi := ⟨some 43, _, _, _, _, _⟩) (v := ?_) rfl (by kernel_rfl) (by kernel_rfl) (by kernel_rfl) (fun _ _ _ h => h) (Or.inl ⟨by rfl, ?_⟩) (by assumption) ?_
        case refine_2 => (intro w hSw; obtain ⟨⟨hx1, hx2⟩, ⟨p0, p1, p2, p3⟩, ⟨u0, u1, u2, u3⟩, _, _, _⟩ := hSw; have d1 := hx1.cell; have d2 := hx2.cell; go_simp; first | done | with_reducible rfl)
        simp only [Act.put, List.setIfInBounds_toArray, List.set_cons_zero, List.set_cons_succ]
        refine wpAnyH_take (i := 3) (oi := ⟨some 44, _, _, _, _, _⟩) (v := ?_) rfl (by kernel_rfl) (by kernel_rfl) (by kernel_rfl) (fun _ _ _ h => h) (Or.inl ⟨by rfl, ?_⟩) (by assumption) ?_
        case refine_2 => (intro w hSw; obtain ⟨⟨hx1, hx2⟩, ⟨p0, p1, p2, p3⟩, ⟨u0, u1, u2, u3⟩, _, _, _⟩ := hSw; have d1 := hx1.cell; have d2 := hx2.cell; go_simp; first | done | with_reducible rfl)
        simp only [Act.put, List.setIfInBounds_toArray, List.set_cons_zero, List.set_cons_succ]
        refine wpAnyH_take (i := 4) (oi := ⟨some 45, _, _, _, _, _⟩) (v := ?_) rfl (by kernel_rfl) (by kernel_rfl) (by kernel_rfl) (fun _ _ _ h => h) (Or.inl ⟨by rfl, ?_⟩) (by assumption) ?_
        case refine_2 => (intro w hSw; obtain ⟨⟨hx1, hx2⟩, ⟨p0, p1, p2, p3⟩, ⟨u0, u1, u2, u3⟩, _, _, _⟩ := hSw; have d1 := hx1.cell; have d2 := hx2.cell; go_simp; first | done | with_reducible rfl)
        simp only [Act.put, List.setIfInBounds_toArray, List.set_cons_zero, List.set_cons_succ]
        refine wpAnyH_take (i := 5) (oi := ⟨some 46, _, _, _, _, _⟩) (v := ?_) rfl (by kernel_rfl) (by kernel_rfl) (by kernel_rfl) (fun _ _ _ h => h) (Or.inl ⟨by rfl, ?_⟩) (by assumption) ?_
        case refine_2 => (intro w hSw; obtain ⟨⟨hx1, hx2⟩, ⟨p0, p1, p2, p3⟩, ⟨u0, u1, u2, u3⟩, _, _, _⟩ := hSw; have d1 := hx1.cell; have d2 := hx2.cell; go_simp; first | done | with_reducible rfl)
        simp only [Act.put, List.setIfInBounds_toArray, List.set_cons_zero, List.set_cons_succ]
        refine wpAnyH_take (i := 6) (oi := ⟨some 47, _, _, _, _, _⟩) (v := ?_) rfl (by kernel_rfl) (by kernel_rfl) (by kernel_rfl) (fun _ _ _ h => h) (Or.inl ⟨by rfl, ?_⟩) (by assumption) ?_
        case refine_2 => (intro w hSw; obtain ⟨⟨hx1, hx2⟩, ⟨p0, p1, p2, p3⟩, ⟨u0, u1, u2, u3⟩, _, _, _⟩ := hSw; have d1 := hx1.cell; have d2 := hx2.cell; go_simp; first | done | with_reducible rfl)
        simp only [Act.put, List.setIfInBounds_toArray, List.set_cons_zero, List.set_cons_succ]
        refine wpAnyH_take (i := 7) (oi := ⟨some 48, _, _, _, _, _⟩) (v := ?_) rfl (by kernel_rfl) (by kernel_rfl) (by kernel_rfl) (fun _ _ _ h => h) (Or.inl ⟨by rfl, ?_⟩) (by assumption) ?_
        case refine_2 => (intro w hSw; obtain ⟨⟨hx1, hx2⟩, ⟨p0, p1, p2, p3⟩, ⟨u0, u1, u2, u3⟩, _, _, _⟩ := hSw; have d1 := hx1.cell; have d2 := hx2.cell; go_simp; first | done | with_reducible rfl)
        simp only [Act.put, List.setIfInBounds_toArray, List.set_cons_zero, List.set_cons_succ]
        refine wpAnyH_take (i := 8) (oi := ⟨some 49, _, _, _, _, _⟩) (v := ?_) rfl (by kernel_rfl) (by kernel_rfl) (by kernel_rfl) (fun _ _ _ h => h) (Or.inl ⟨by rfl, ?_⟩) (by assumption) ?_
        case refine_2 => (intro w hSw; obtain ⟨⟨hx1, hx2⟩, ⟨p0, p1, p2, p3⟩, ⟨u0, u1, u2, u3⟩, _, _, _⟩ := hSw; have d1 := hx1.cell; have d2 := hx2.cell; go_simp; first | done | with_reducible rfl)
        simp only [Act.put, List.setIfInBounds_toArray, List.set_cons_zero, List.set_cons_succ]
        refine wpAnyH_take (i := 9) (oi := ⟨some 50, _, _, _, _, _⟩) (v := ?_) rfl (by kernel_rfl) (by kernel_rfl) (by kernel_rfl) (fun _ _ _ h => h) (Or.inl ⟨by rfl, ?_⟩) (by assumption) ?_
        case refine_2 => (intro w hSw; obtain ⟨⟨hx1, hx2⟩, ⟨p0, p1, p2, p3⟩, ⟨u0, u1, u2, u3⟩, _, _, _⟩ := hSw; have d1 := hx1.cell; have d2 := hx2.cell; go_simp; first | done | with_reducible rfl)
        simp only [Act.put, List.setIfInBounds_toArray, List.set_cons_zero, List.set_cons_succ]
        refine wpAnyH_ready (rs := [10]) (by kernel_rfl) (by simp) ?_
        refine AllReadyH.cons (o := ⟨some 51, _, _, _, _, _⟩) rfl (fun K hK => ?_) AllReadyH.nil
        go_simp
        refine (CZ.out _ (hHeld.2.2.2.1.more (Nat.le_refl _) hHeld.2.2.2.2.2) (hHeld.2.2.2.2.1.more (Nat.le_refl _) hHeld.2.2.2.2.2)).mono ?_; rintro e w1 ⟨rfl, b1⟩
        go_wp2_with fail
        refine hK.out _ _ (⟨⟨hHeld.1.1.keep b1, hHeld.1.2.keep b1⟩, ⟨(b1.cell (Nat.lt_of_lt_of_le hbb hHeld.2.2.2.2.2)).trans hHeld.2.1.1, (b1.cell (Nat.lt_of_lt_of_le hbb hHeld.2.2.2.2.2)).trans hHeld.2.1.2.1, (b1.cell (Nat.lt_of_lt_of_le hbb hHeld.2.2.2.2.2)).trans hHeld.2.1.2.2.1, (b1.cell (Nat.lt_of_lt_of_le hbb hHeld.2.2.2.2.2)).trans hHeld.2.1.2.2.2⟩, ⟨(b1.cell (Nat.lt_of_lt_of_le hbb2 hHeld.2.2.2.2.2)).trans hHeld.2.2.1.1, (b1.cell (Nat.lt_of_lt_of_le hbb2 hHeld.2.2.2.2.2)).trans hHeld.2.2.1.2.1, (b1.cell (Nat.lt_of_lt_of_le hbb2 hHeld.2.2.2.2.2)).trans hHeld.2.2.1.2.2.1, (b1.cell (Nat.lt_of_lt_of_le hbb2 hHeld.2.2.2.2.2)).trans hHeld.2.2.1.2.2.2⟩, hHeld.2.2.2.1.below b1 hHeld.2.2.2.2.2, hHeld.2.2.2.2.1.below b1 hHeld.2.2.2.2.2, Nat.le_trans hHeld.2.2.2.2.2 b1.size⟩) (fun hHeld => ?_)
        clear hK K
        try simp only [Act.put, List.setIfInBounds_toArray, List.set_cons_zero, List.set_cons_succ]
        refine wpAnyH_take (i := 11) (oi := ⟨some 52, _, _, _, _, _⟩) (v := ?_) rfl (by kernel_rfl) (by kernel_rfl) (by kernel_rfl) (fun _ _ _ h => h) (Or.inl ⟨by rfl, ?_⟩) (by assumption) ?_
        case refine_2 => (intro w hSw; skip; go_simp; first | done | with_reducible rfl)
        simp only [Act.put, List.setIfInBounds_toArray, List.set_cons_zero, List.set_cons_succ]
        refine wpAnyH_done (by kernel_rfl) ?_ _
        go_wp2_with fail
        go_ret
        exact ⟨rfl, bl_trans hL.drew b1⟩
      · have HE := Lib.hid ((sameF_drop_yes hd hd2 hz).symm.trans hE)
        clear hd hd2 HR hz hE
        go_wp2_with fail
        refine wp_region_held_drew (S := (fun x => (Blk x w.heap.size 26 #[.int .i64 zk, .int .i64 zn, .string zs, .slice (some ⟨b, o, none⟩) kids.len c] ∧ Blk x (w.heap.size + 1) 26 #[.int .i64 zk, .int .i64 zn, .string zs', .slice (some ⟨b2, o2, none⟩) kids'.len c']) ∧ (x.cell? ⟨b, o + k * 4, none⟩ = some (.int .i64 yk) ∧ x.cell? ⟨b, o + k * 4 + 1, none⟩ = some (.int .i64 yn) ∧ x.cell? ⟨b, o + k * 4 + 2, none⟩ = some (.string ys) ∧ x.cell? ⟨b, o + k * 4 + 3, none⟩ = some (.slice A1 k1.len c1)) ∧ (x.cell? ⟨b2, o2 + k * 4, none⟩ = some (.int .i64 xk) ∧ x.cell? ⟨b2, o2 + k * 4 + 1, none⟩ = some (.int .i64 xn) ∧ x.cell? ⟨b2, o2 + k * 4 + 2, none⟩ = some (.string xs) ∧ x.cell? ⟨b2, o2 + k * 4 + 3, none⟩ = some (.slice A2 k2.len c2)) ∧ Sl exprC x 0 wr.heap.size A1 k1 ∧ Sl exprC x 0 wr.heap.size A2 k2 ∧ wr.heap.size ≤ x.heap.size)) (by kernel_rfl) ?_ (fun hHeld => ?_)
        · exact ⟨⟨hB1.drew, hB2.drew⟩, ⟨q0, q1, q2, q3⟩, ⟨r0, r1, r2, r3⟩, hS1.keep (fun _ _ _ => rfl) (Nat.le_refl _) hL.size, hS2.keep (fun _ _ _ => rfl) (Nat.le_refl _) hL.size, Nat.le_refl _⟩
        refine wpAnyH_take (i := 0) (oi := ⟨some 41, _, _, _, _, _⟩) (v := ?_) rfl (by kernel_rfl) (by kernel_rfl) (by kernel_rfl) (fun _ _ _ h => h) (Or.inl ⟨by rfl, ?_⟩) (by assumption) ?_
        case refine_2 => (intro w hSw; obtain ⟨⟨hx1, hx2⟩, ⟨p0, p1, p2, p3⟩, ⟨u0, u1, u2, u3⟩, _, _, _⟩ := hSw; have d1 := hx1.cell; have d2 := hx2.cell; go_simp; first | done | with_reducible rfl)
        simp only [Act.put, List.setIfInBounds_toArray, List.set_cons_zero, List.set_cons_succ]
        refine wpAnyH_take (i := 1) (oi := ⟨some 42, _, _, _, _, _⟩) (v := ?_) rfl (by kernel_rfl) (by kernel_rfl) (by kernel_rfl) (fun _ _ _ h => h) (Or.inl ⟨by rfl, ?_⟩) (by assumption) ?_
        case refine_2 => (intro w hSw; obtain ⟨⟨hx1, hx2⟩, ⟨p0, p1, p2, p3⟩, ⟨u0, u1, u2, u3⟩, _, _, _⟩ := hSw; have d1 := hx1.cell; have d2 := hx2.cell; go_simp; first | done | with_reducible rfl)
        simp only [Act.put, List.setIfInBounds_toArray, List.set_cons_zero, List.set_cons_succ]
        refine wpAnyH_take (i := 2) (oi := ⟨some 43, _, _, _, _, _⟩) (v := ?_) rfl (by kernel_rfl) (by kernel_rfl) (by kernel_rfl) (fun _ _ _ h => h) (Or.inl ⟨by rfl, ?_⟩) (by assumption) ?_
        case refine_2 => (intro w hSw; obtain ⟨⟨hx1, hx2⟩, ⟨p0, p1, p2, p3⟩, ⟨u0, u1, u2, u3⟩, _, _, _⟩ := hSw; have d1 := hx1.cell; have d2 := hx2.cell; go_simp; first | done | with_reducible rfl)
        simp only [Act.put, List.setIfInBounds_toArray, List.set_cons_zero, List.set_cons_succ]
        refine wpAnyH_take (i := 3) (oi := ⟨some 44, _, _, _, _, _⟩) (v := ?_) rfl (by kernel_rfl) (by kernel_rfl) (by kernel_rfl) (fun _ _ _ h => h) (Or.inl ⟨by rfl, ?_⟩) (by assumption) ?_
        case refine_2 => (intro w hSw; obtain ⟨⟨hx1, hx2⟩, ⟨p0, p1, p2, p3⟩, ⟨u0, u1, u2, u3⟩, _, _, _⟩ := hSw; have d1 := hx1.cell; have d2 := hx2.cell; go_simp; first | done | with_reducible rfl)
        simp only [Act.put, List.setIfInBounds_toArray, List.set_cons_zero, List.set_cons_succ]
        refine wpAnyH_take (i := 4) (oi := ⟨some 45, _, _, _, _, _⟩) (v := ?_) rfl (by kernel_rfl) (by kernel_rfl) (by kernel_rfl) (fun _ _ _ h => h) (Or.inl ⟨by rfl, ?_⟩) (by assumption) ?_
        case refine_2 => (intro w hSw; obtain ⟨⟨hx1, hx2⟩, ⟨p0, p1, p2, p3⟩, ⟨u0, u1, u2, u3⟩, _, _, _⟩ := hSw; have d1 := hx1.cell; have d2 := hx2.cell; go_simp; first | done | with_reducible rfl)
        simp only [Act.put, List.setIfInBounds_toArray, List.set_cons_zero, List.set_cons_succ]
        refine wpAnyH_take (i := 5) (oi := ⟨some 46, _, _, _, _, _⟩) (v := ?_) rfl (by kernel_rfl) (by kernel_rfl) (by kernel_rfl) (fun _ _ _ h => h) (Or.inl ⟨by rfl, ?_⟩) (by assumption) ?_
        case refine_2 => (intro w hSw; obtain ⟨⟨hx1, hx2⟩, ⟨p0, p1, p2, p3⟩, ⟨u0, u1, u2, u3⟩, _, _, _⟩ := hSw; have d1 := hx1.cell; have d2 := hx2.cell; go_simp; first | done | with_reducible rfl)
        simp only [Act.put, List.setIfInBounds_toArray, List.set_cons_zero, List.set_cons_succ]
        refine wpAnyH_take (i := 6) (oi := ⟨some 47, _, _, _, _, _⟩) (v := ?_) rfl (by kernel_rfl) (by kernel_rfl) (by kernel_rfl) (fun _ _ _ h => h) (Or.inl ⟨by rfl, ?_⟩) (by assumption) ?_
        case refine_2 => (intro w hSw; obtain ⟨⟨hx1, hx2⟩, ⟨p0, p1, p2, p3⟩, ⟨u0, u1, u2, u3⟩, _, _, _⟩ := hSw; have d1 := hx1.cell; have d2 := hx2.cell; go_simp; first | done | with_reducible rfl)
        simp only [Act.put, List.setIfInBounds_toArray, List.set_cons_zero, List.set_cons_succ]
        refine wpAnyH_take (i := 7) (oi := ⟨some 48, _, _, _, _, _⟩) (v := ?_) rfl (by kernel_rfl) (by kernel_rfl) (by kernel_rfl) (fun _ _ _ h => h) (Or.inl ⟨by rfl, ?_⟩) (by assumption) ?_
        case refine_2 => (intro w hSw; obtain ⟨⟨hx1, hx2⟩, ⟨p0, p1, p2, p3⟩, ⟨u0, u1, u2, u3⟩, _, _, _⟩ := hSw; have d1 := hx1.cell; have d2 := hx2.cell; go_simp; first | done | with_reducible rfl)
        simp only [Act.put, List.setIfInBounds_toArray, List.set_cons_zero, List.set_cons_succ]
        refine wpAnyH_take (i := 8) (oi := ⟨some 49, _, _, _, _, _⟩) (v := ?_) rfl (by kernel_rfl) (by kernel_rfl) (by kernel_rfl) (fun _ _ _ h => h) (Or.inl ⟨by rfl, ?_⟩) (by assumption) ?_
        case refine_2 => (intro w hSw; obtain ⟨⟨hx1, hx2⟩, ⟨p0, p1, p2, p3⟩, ⟨u0, u1, u2, u3⟩, _, _, _⟩ := hSw; have d1 := hx1.cell; have d2 := hx2.cell; go_simp; first | done | with_reducible rfl)
        simp only [Act.put, List.setIfInBounds_toArray, List.set_cons_zero, List.set_cons_succ]
        refine wpAnyH_take (i := 9) (oi := ⟨some 50, _, _, _, _, _⟩) (v := ?_) rfl (by kernel_rfl) (by kernel_rfl) (by kernel_rfl) (fun _ _ _ h => h) (Or.inl ⟨by rfl, ?_⟩) (by assumption) ?_
        case refine_2 => (intro w hSw; obtain ⟨⟨hx1, hx2⟩, ⟨p0, p1, p2, p3⟩, ⟨u0, u1, u2, u3⟩, _, _, _⟩ := hSw; have d1 := hx1.cell; have d2 := hx2.cell; go_simp; first | done | with_reducible rfl)
        simp only [Act.put, List.setIfInBounds_toArray, List.set_cons_zero, List.set_cons_succ]
        refine wpAnyH_ready (rs := [10]) (by kernel_rfl) (by simp) ?_
        refine AllReadyH.cons (o := ⟨some 51, _, _, _, _, _⟩) rfl (fun K hK => ?_) AllReadyH.nil
        go_simp
        refine (CZ.out _ (hHeld.2.2.2.1.more (Nat.le_refl _) hHeld.2.2.2.2.2) (hHeld.2.2.2.2.1.more (Nat.le_refl _) hHeld.2.2.2.2.2)).mono ?_; rintro e w1 ⟨rfl, b1⟩
        go_wp2_with fail
        refine hK.out _ _ (⟨⟨hHeld.1.1.keep b1, hHeld.1.2.keep b1⟩, ⟨(b1.cell (Nat.lt_of_lt_of_le hbb hHeld.2.2.2.2.2)).trans hHeld.2.1.1, (b1.cell (Nat.lt_of_lt_of_le hbb hHeld.2.2.2.2.2)).trans hHeld.2.1.2.1, (b1.cell (Nat.lt_of_lt_of_le hbb hHeld.2.2.2.2.2)).trans hHeld.2.1.2.2.1, (b1.cell (Nat.lt_of_lt_of_le hbb hHeld.2.2.2.2.2)).trans hHeld.2.1.2.2.2⟩, ⟨(b1.cell (Nat.lt_of_lt_of_le hbb2 hHeld.2.2.2.2.2)).trans hHeld.2.2.1.1, (b1.cell (Nat.lt_of_lt_of_le hbb2 hHeld.2.2.2.2.2)).trans hHeld.2.2.1.2.1, (b1.cell (Nat.lt_of_lt_of_le hbb2 hHeld.2.2.2.2.2)).trans hHeld.2.2.1.2.2.1, (b1.cell (Nat.lt_of_lt_of_le hbb2 hHeld.2.2.2.2.2)).trans hHeld.2.2.1.2.2.2⟩, hHeld.2.2.2.1.below b1 hHeld.2.2.2.2.2, hHeld.2.2.2.2.1.below b1 hHeld.2.2.2.2.2, Nat.le_trans hHeld.2.2.2.2.2 b1.size⟩) (fun hHeld => ?_)
        clear hK K
        try simp only [Act.put, List.setIfInBounds_toArray, List.set_cons_zero, List.set_cons_succ]
        refine wpAnyH_take (i := 11) (oi := ⟨some 52, _, _, _, _, _⟩) (v := ?_) rfl (by kernel_rfl) (by kernel_rfl) (by kernel_rfl) (fun _ _ _ h => h) (Or.inl ⟨by rfl, ?_⟩) (by assumption) ?_
        case refine_2 => (intro w hSw; skip; go_simp; first | done | with_reducible rfl)
        simp only [Act.put, List.setIfInBounds_toArray, List.set_cons_zero, List.set_cons_succ]
        refine wpAnyH_done (by kernel_rfl) ?_ _
        go_wp2_with fail
        go_roundw
        case rel => exact ⟨k + 1, by omega, by go_num, HE.out, hHeld.1.1, hHeld.1.2, bl_trans hL.drew b1⟩
        case measure => simp [intOf]; omega
    · obtain rfl : k = kids.len := by omega
      rw [sameF_end H4.out] at hE
      subst hE
      clear HR
      go_wp2_with fail
      go_ret
      exact ⟨rfl, hL⟩

theorem sSame_any (K : Nat) : ∀ (kids : Fr (Int × Int × ByteArray)), kids.size ≤ K → K ≤ 1048576 → ∀ (zk zn : Int) (zs : ByteArray) (A : Option Addr) (c : Nat) (zk' zn' : Int) (zs' : ByteArray) (kids' : Fr (Int × Int × ByteArray)) (A' : Option Addr) (c' : Nat) (w : World), kids'.size ≤ 1048576 → Sl exprC w 0 w.heap.size A kids → Sl exprC w 0 w.heap.size A' kids' → Calls Try.prog 9 #[.agg #[.int .i64 zk, .int .i64 zn, .string zs, .slice A kids.len c], .agg #[.int .i64 zk', .int .i64 zn', .string zs', .slice A' kids'.len c']] w fun e w' => e = .returned (.bool (labB (zk, zn, zs) (zk', zn', zs') && sameF kids kids')) ∧ Below w.heap.size w w' := by
  induction K with
  | zero =>
    intro kids hK _ zk zn zs A c zk' zn' zs' kids' A' c' w hl' hS hS'
    exact sSame_step 0 zk zn zs kids A c zk' zn' zs' kids' A' c' w hK (by omega) hl' hS hS' (fun kids h => by omega)
  | succ K ih =>
    intro kids hK hb zk zn zs A c zk' zn' zs' kids' A' c' w hl' hS hS'
    exact sSame_step (K + 1) zk zn zs kids A c zk' zn' zs' kids' A' c' w hK (by omega) hl' hS hS' (fun kids h => ih kids (by omega) (by omega))

end Go.Proofs.Ytalnkdbmbjplpaa
