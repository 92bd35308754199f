/- Walk over the program's SameExpr: are two terms the same. A row has at most 1048576 nodes. -/
import Derived.Test.YtalnkdbmbjplpaaSame
namespace Go.Proofs.Ytalnkdbmbjplpaa
open Go.RowKit

set_option maxHeartbeats 4000000 in
theorem iEqual_step (K : Nat) (x y : Fr (Int × Int × ByteArray)) (A A' : Option Addr) (c c' : Nat) (w : World) (hK : x.size ≤ K) (hl : x.size ≤ 1048576) (hl' : y.size ≤ 1048576) (hS : Sl exprC w 0 w.heap.size A x) (hS' : Sl exprC w 0 w.heap.size A' y)
    (ih : ∀ (kids : Fr (Int × Int × ByteArray)), kids.size < K → ∀ (zk zn : Int) (zs : ByteArray) (A : Option Addr) (c : Nat) (zk' zn' : Int) (zs' : ByteArray) (kids' : Fr (Int × Int × ByteArray)) (A' : Option Addr) (c' : Nat) (w : World), kids'.size ≤ 1048576 → Sl exprC w 0 w.heap.size A kids → Sl exprC w 0 w.heap.size A' kids' → Calls Try.prog 8 #[.agg #[.int .i64 zk, .int .i64 zn, .string zs, .slice A kids.len c], .agg #[.int .i64 zk', .int .i64 zn', .string zs', .slice A' kids'.len c']] w fun e w' => e = .returned (.bool (labB (zk, zn, zs) (zk', zn', zs') && sameF kids kids')) ∧ Below w.heap.size w w') :
    Calls Try.prog 20 #[.slice A x.len c, .slice A' y.len c', .func (.func 8) #[] #[]] w fun e w' => e = .returned (.bool (sameF x y)) ∧ Below w.heap.size w w' := by
  have IHH := Lib.hid ih
  clear ih
  by_cases h4 : x.len = y.len
  case neg =>
    have g2 : ((x.len : Int) != y.len) = true := by simp; omega
    rw [sameF_len x y h4]
    go_enter Try.func20, Try.ntmps20
    go_wp2_with fail
    go_ret
    exact ⟨rfl, Below.refl _ _⟩
  have g4 : ((x.len : Int) != y.len) = false := by simp; omega
  have hlen := x.len_size
  have H4 := Lib.hid h4
  obtain ⟨R, hR⟩ : ∃ R, sameF x y = R := ⟨_, rfl⟩
  rw [hR]
  have HR := Lib.hid hR
  clear hR h4
  go_enter Try.func20, Try.ntmps20
  go_wp2_with fail
  go_loopw [17] (fun i wr => ∃ k : Nat, k ≤ x.len ∧ i = .int .i64 k ∧ sameF (x.drop k) (y.drop k) = R ∧ Below w.heap.size w wr) (fun i _ => x.len - (intOf i).toNat)
  case atStart => exact ⟨0, Nat.zero_le _, rfl, by rw [Fr.drop_zero, Fr.drop_zero]; exact HR.out, Below.refl _ _⟩
  case round =>
    obtain ⟨k, hk, rfl, hE, hL⟩ := hrel
    by_cases hlt : k < x.len
    · obtain ⟨b, o, a, k1, A1, c1, rfl, hb, hd, hks1, hS1, q0, q1, q2, q3⟩ := at_Expr (hS.below hL (Nat.le_refl _)) hlt
      obtain ⟨b2, o2, a2, k2, A2, c2, rfl, hb2, hd2, hks2, hS2, r0, r1, r2, r3⟩ := at_Expr (hS'.below hL (Nat.le_refl _)) (i := k) (by have := H4.out; omega)
      obtain ⟨yk, yn, ys⟩ := a
      obtain ⟨xk, xn, xs⟩ := a2
      simp only at q0 q1 q2 r0 r1 r2
      have hlt' : (k : Int) < (x.len : Int) := by omega
      have hlt2 : (k : Int) < (y.len : Int) := by have := H4.out; omega
      have L1 := bl_alloc (bl_alloc hL (.cells #[.int .i64 yk, .int .i64 yn, .string ys, .slice A1 k1.len c1] 26)) (.cells #[.int .i64 xk, .int .i64 xn, .string xs, .slice A2 k2.len c2] 26)
      have hbb2 : b2 < wr.heap.size := Nat.lt_of_lt_of_le hb2 hL.size
      have fa := fun (p : Addr) (h : p.block < wr.heap.size) => World.cell?_alloc_lt wr (.cells #[.int .i64 yk, .int .i64 yn, .string ys, .slice A1 k1.len c1] 26) p h
      replace r0 := (fa ⟨b2, _, none⟩ hbb2).trans r0
      replace r1 := (fa ⟨b2, _, none⟩ hbb2).trans r1
      replace r2 := (fa ⟨b2, _, none⟩ hbb2).trans r2
      replace r3 := (fa ⟨b2, _, none⟩ hbb2).trans r3
      clear fa
      have cZ := fun w h h' => IHH.out k1 (by omega) yk yn ys A1 c1 xk xn xs k2 A2 c2 w (by omega) h h'
      obtain ⟨z, hz⟩ : ∃ z, (labB (yk, yn, ys) (xk, xn, xs) && sameF k1 k2) = z := ⟨_, rfl⟩
      rw [hz] at cZ
      have CZ := Lib.hid cZ
      clear cZ
      have hT1 : Sl exprC ((wr.alloc (.cells #[.int .i64 yk, .int .i64 yn, .string ys, .slice A1 k1.len c1] 26)).alloc (.cells #[.int .i64 xk, .int .i64 xn, .string xs, .slice A2 k2.len c2] 26)) 0 _ A1 k1 := (hS1.below (B := wr.heap.size) (bl_alloc (bl_alloc (Below.refl wr.heap.size wr) _) _) hL.size).more (Nat.le_refl _) L1.size
      have hT2 : Sl exprC ((wr.alloc (.cells #[.int .i64 yk, .int .i64 yn, .string ys, .slice A1 k1.len c1] 26)).alloc (.cells #[.int .i64 xk, .int .i64 xn, .string xs, .slice A2 k2.len c2] 26)) 0 _ A2 k2 := (hS2.below (B := wr.heap.size) (bl_alloc (bl_alloc (Below.refl wr.heap.size wr) _) _) hL.size).more (Nat.le_refl _) L1.size
      cases z
      · rw [sameF_drop_no hd hd2 hz] at hE
        subst hE
        clear hd hd2 HR hz
        go_wp2_with fail
        refine (CZ.out _ hT1 hT2).mono ?_; rintro e w1 ⟨rfl, b1⟩
        go_wp2_with fail
        go_ret
        exact ⟨rfl, bl_trans L1 b1⟩
      · have HE := Lib.hid ((sameF_drop_yes hd hd2 hz).symm.trans hE)
        clear hd hd2 HR hz hE
        go_wp2_with fail
        refine (CZ.out _ hT1 hT2).mono ?_; rintro e w1 ⟨rfl, b1⟩
        go_wp2_with fail
        go_roundw
        case rel => exact ⟨k + 1, by omega, by go_num, HE.out, bl_trans L1 b1⟩
        case measure => simp [intOf]; omega
    · obtain rfl : k = x.len := by omega
      rw [sameF_end H4.out] at hE
      subst hE
      clear HR
      go_wp2_with fail
      go_ret
      exact ⟨rfl, hL⟩

set_option maxHeartbeats 4000000 in
theorem iSame_step (K : Nat) (zk zn : Int) (zs : ByteArray) (kids : Fr (Int × Int × ByteArray)) (A : Option Addr) (c : Nat) (zk' zn' : Int) (zs' : ByteArray) (kids' : Fr (Int × Int × ByteArray)) (A' : Option Addr) (c' : Nat) (w : World) (hK : kids.size ≤ K) (hl : kids.size ≤ 1048576) (hl' : kids'.size ≤ 1048576) (hS : Sl exprC w 0 w.heap.size A kids) (hS' : Sl exprC w 0 w.heap.size A' kids')
    (ih : ∀ (kids : Fr (Int × Int × ByteArray)), kids.size < K → ∀ (zk zn : Int) (zs : ByteArray) (A : Option Addr) (c : Nat) (zk' zn' : Int) (zs' : ByteArray) (kids' : Fr (Int × Int × ByteArray)) (A' : Option Addr) (c' : Nat) (w : World), kids'.size ≤ 1048576 → Sl exprC w 0 w.heap.size A kids → Sl exprC w 0 w.heap.size A' kids' → Calls Try.prog 8 #[.agg #[.int .i64 zk, .int .i64 zn, .string zs, .slice A kids.len c], .agg #[.int .i64 zk', .int .i64 zn', .string zs', .slice A' kids'.len c']] w fun e w' => e = .returned (.bool (labB (zk, zn, zs) (zk', zn', zs') && sameF kids kids')) ∧ Below w.heap.size w w') :
    Calls Try.prog 8 #[.agg #[.int .i64 zk, .int .i64 zn, .string zs, .slice A kids.len c], .agg #[.int .i64 zk', .int .i64 zn', .string zs', .slice A' kids'.len c']] w fun e w' => e = .returned (.bool (labB (zk, zn, zs) (zk', zn', zs') && sameF kids kids')) ∧ Below w.heap.size w w' := by
  have hq : labB (zk, zn, zs) (zk', zn', zs') = (zk == zk' && zn == zn' && zs.toList == zs'.toList) := rfl
  by_cases h1 : zk = zk'
  case neg =>
    have g1 : (zk == zk') = false := by simp [h1]
    rw [hq, g1, Bool.false_and, Bool.false_and, Bool.false_and]
    go_enter Try.func8, Try.ntmps8
    go_wp2_with fail
    go_ret
    exact ⟨rfl, by repeat (first | exact Below.refl _ _ | refine bl_drewN ?_ _ | refine Below.drew ?_ | refine bl_alloc ?_ _ | refine bl_set ?_ (by simp) _ | refine bl_trans ?_ (by assumption))⟩
  subst h1
  by_cases h2 : zn = zn'
  case neg =>
    have g1 : (zn == zn') = false := by simp [h2]
    rw [hq, g1, Bool.and_false, Bool.false_and, Bool.false_and]
    go_enter Try.func8, Try.ntmps8
    go_wp2_with fail
    go_ret
    exact ⟨rfl, by repeat (first | exact Below.refl _ _ | refine bl_drewN ?_ _ | refine Below.drew ?_ | refine bl_alloc ?_ _ | refine bl_set ?_ (by simp) _ | refine bl_trans ?_ (by assumption))⟩
  subst h2
  cases h3 : (zs.toList == zs'.toList)
  case false =>
    rw [hq, h3, Bool.and_false, Bool.false_and]
    go_enter Try.func8, Try.ntmps8
    go_wp2_with fail
    go_ret
    exact ⟨rfl, by repeat (first | exact Below.refl _ _ | refine bl_drewN ?_ _ | refine Below.drew ?_ | refine bl_alloc ?_ _ | refine bl_set ?_ (by simp) _ | refine bl_trans ?_ (by assumption))⟩
  rw [hq, h3, beq_self_eq_true, beq_self_eq_true]
  simp only [Bool.true_and]
  have L0 := bl_alloc (bl_alloc (Below.refl w.heap.size w) (.cells #[.int .i64 zk, .int .i64 zn, .string zs, .slice A kids.len c] 26)) (.cells #[.int .i64 zk, .int .i64 zn, .string zs', .slice A' kids'.len c'] 26)
  have CE := iEqual_step K kids kids' A A' c c' _ hK hl hl' ((hS.below L0 (Nat.le_refl _)).more (Nat.le_refl _) L0.size) ((hS'.below L0 (Nat.le_refl _)).more (Nat.le_refl _) L0.size) ih
  generalize sameF kids kids' = z at CE ⊢
  have CC := Lib.hid CE
  clear CE ih
  go_enter Try.func8, Try.ntmps8
  go_wp2_with fail
  refine CC.out.mono ?_; rintro e w1 ⟨rfl, b1⟩
  go_wp2_with fail
  go_ret
  exact ⟨rfl, bl_trans L0 b1⟩

theorem iSame_any (K : Nat) : ∀ (kids : Fr (Int × Int × ByteArray)), kids.size ≤ K → K ≤ 1048576 → ∀ (zk zn : Int) (zs : ByteArray) (A : Option Addr) (c : Nat) (zk' zn' : Int) (zs' : ByteArray) (kids' : Fr (Int × Int × ByteArray)) (A' : Option Addr) (c' : Nat) (w : World), kids'.size ≤ 1048576 → Sl exprC w 0 w.heap.size A kids → Sl exprC w 0 w.heap.size A' kids' → Calls Try.prog 8 #[.agg #[.int .i64 zk, .int .i64 zn, .string zs, .slice A kids.len c], .agg #[.int .i64 zk', .int .i64 zn', .string zs', .slice A' kids'.len c']] w fun e w' => e = .returned (.bool (labB (zk, zn, zs) (zk', zn', zs') && sameF kids kids')) ∧ Below w.heap.size w w' := by
  induction K with
  | zero =>
    intro kids hK _ zk zn zs A c zk' zn' zs' kids' A' c' w hl' hS hS'
    exact iSame_step 0 zk zn zs kids A c zk' zn' zs' kids' A' c' w hK (by omega) hl' hS hS' (fun kids h => by omega)
  | succ K ih =>
    intro kids hK hb zk zn zs A c zk' zn' zs' kids' A' c' w hl' hS hS'
    exact iSame_step (K + 1) zk zn zs kids A c zk' zn' zs' kids' A' c' w hK (by omega) hl' hS hS' (fun kids h => ih kids (by omega) (by omega))

end Go.Proofs.Ytalnkdbmbjplpaa
