import Derived.Test.YtemlnpncljomgaaGreatDoorExprLs
import Derived.Deep.RegionHeld3
namespace Go.Proofs.YtemlnpncljomgaaGreatDoor
open Go.RowKit

set_option maxRecDepth 20000 in
set_option maxHeartbeats 4000000 in
theorem sTextE_1 (K : Nat) (zn : Int) (zs : ByteArray) (kids : Fr (Int × Int × ByteArray)) (A : Option Addr) (c : Nat) (w : World) (hK : kids.size ≤ K) (hl : kids.size ≤ 1048576) (hH : hereE (1, zn, zs) kids.len = true) (hok : okNA cntE.here kids = true) (hwz : zs.size + wt gExpr kids ≤ 1048576) (hT : Tab w) (hS : Sl exprC w 0 w.heap.size A kids) (ih : ∀ (kids : Fr (Int × Int × ByteArray)), kids.size < K → ∀ (zk zn : Int) (zs : ByteArray) (A : Option Addr) (c : Nat) (w : World), hereE (zk, zn, zs) kids.len = true → okNA cntE.here kids = true → zs.size + wt gExpr kids ≤ 1048576 → Tab w → Sl exprC w 0 w.heap.size A kids → Calls Tryz.prog 23 #[.agg #[.int .i64 zk, .int .i64 zn, .string zs, .slice A kids.len c]] w fun e w' => e = .returned (.string (txE (zk, zn, zs) (rowX kids))) ∧ Below w.heap.size w w') :
    Calls Tryz.prog 23 #[.agg #[.int .i64 1, .int .i64 zn, .string zs, .slice A kids.len c]] w fun e w' => e = .returned (.string (txE (1, zn, zs) (rowX kids))) ∧ Below w.heap.size w w' := by
  have B := Blk.new w 29 #[.int .i64 1, .int .i64 zn, .string zs, .slice A kids.len c]
  have L0 := bl_alloc (Below.refl w.heap.size w) (.cells #[.int .i64 1, .int .i64 zn, .string zs, .slice A kids.len c] 29)
  have IHH := Lib.hid ih
  have _ := hT
  have _ := hK
  have _ := hl
  have _ := hok
  have _ := hwz
  have _ := hS
  have hr : 0 ≤ zn ∧ zn ≤ 2147483647 := by
    rw [hereE_one, Bool.and_eq_true] at hH
    exact inI_iff.1 hH.1
  have HE := Lib.hid (show txE (1, zn, zs) (rowX kids) = itoaS zn from if_pos hr)
  clear ih
  go_enter Tryz.func23, Tryz.ntmps23
  go_wp2_with fail
  refine (sL2Num (zn.natAbs + 1) zn _ (by omega) (by omega) (by omega)).mono ?_; rintro e w1 ⟨rfl, b1⟩
  go_wp2_with fail
  go_ret
  exact ⟨ret_str HE.out.symm, bl_trans L0 b1⟩

set_option maxRecDepth 20000 in
set_option maxHeartbeats 4000000 in
theorem sTextE_2 (K : Nat) (zs : ByteArray) (kids : Fr (Int × Int × ByteArray)) (A : Option Addr) (c : Nat) (w : World) (hK : kids.size ≤ K) (hl : kids.size ≤ 1048576) (hH : hereE (2, 0, zs) kids.len = true) (hok : okNA cntE.here kids = true) (hwz : zs.size + wt gExpr kids ≤ 1048576) (hT : Tab w) (hS : Sl exprC w 0 w.heap.size A kids) (ih : ∀ (kids : Fr (Int × Int × ByteArray)), kids.size < K → ∀ (zk zn : Int) (zs : ByteArray) (A : Option Addr) (c : Nat) (w : World), hereE (zk, zn, zs) kids.len = true → okNA cntE.here kids = true → zs.size + wt gExpr kids ≤ 1048576 → Tab w → Sl exprC w 0 w.heap.size A kids → Calls Tryz.prog 23 #[.agg #[.int .i64 zk, .int .i64 zn, .string zs, .slice A kids.len c]] w fun e w' => e = .returned (.string (txE (zk, zn, zs) (rowX kids))) ∧ Below w.heap.size w w') :
    Calls Tryz.prog 23 #[.agg #[.int .i64 2, .int .i64 0, .string zs, .slice A kids.len c]] w fun e w' => e = .returned (.string (txE (2, 0, zs) (rowX kids))) ∧ Below w.heap.size w w' := by
  have B := Blk.new w 29 #[.int .i64 2, .int .i64 0, .string zs, .slice A kids.len c]
  have L0 := bl_alloc (Below.refl w.heap.size w) (.cells #[.int .i64 2, .int .i64 0, .string zs, .slice A kids.len c] 29)
  have IHH := Lib.hid ih
  have _ := hT
  have _ := hK
  have _ := hl
  have _ := hok
  have _ := hwz
  have _ := hS
  have _ := hH
  clear ih
  have z1 : ((⟨#[39]⟩ : ByteArray) ++ zs).size = 1 + zs.size := by rw [ByteArray.size_append]; rfl
  have z2 : (((⟨#[39]⟩ : ByteArray) ++ zs) ++ ⟨#[39]⟩).size = 1 + zs.size + 1 := by rw [ByteArray.size_append, z1]; rfl
  go_enter Tryz.func23, Tryz.ntmps23
  go_wp2_with fail
  go_ret
  exact ⟨rfl, L0⟩

set_option maxRecDepth 20000 in
set_option maxHeartbeats 4000000 in
theorem sTextE_3 (K : Nat) (zs : ByteArray) (kids : Fr (Int × Int × ByteArray)) (A : Option Addr) (c : Nat) (w : World) (hK : kids.size ≤ K) (hl : kids.size ≤ 1048576) (hH : hereE (3, 0, zs) kids.len = true) (hok : okNA cntE.here kids = true) (hwz : zs.size + wt gExpr kids ≤ 1048576) (hT : Tab w) (hS : Sl exprC w 0 w.heap.size A kids) (ih : ∀ (kids : Fr (Int × Int × ByteArray)), kids.size < K → ∀ (zk zn : Int) (zs : ByteArray) (A : Option Addr) (c : Nat) (w : World), hereE (zk, zn, zs) kids.len = true → okNA cntE.here kids = true → zs.size + wt gExpr kids ≤ 1048576 → Tab w → Sl exprC w 0 w.heap.size A kids → Calls Tryz.prog 23 #[.agg #[.int .i64 zk, .int .i64 zn, .string zs, .slice A kids.len c]] w fun e w' => e = .returned (.string (txE (zk, zn, zs) (rowX kids))) ∧ Below w.heap.size w w') :
    Calls Tryz.prog 23 #[.agg #[.int .i64 3, .int .i64 0, .string zs, .slice A kids.len c]] w fun e w' => e = .returned (.string (txE (3, 0, zs) (rowX kids))) ∧ Below w.heap.size w w' := by
  have B := Blk.new w 29 #[.int .i64 3, .int .i64 0, .string zs, .slice A kids.len c]
  have L0 := bl_alloc (Below.refl w.heap.size w) (.cells #[.int .i64 3, .int .i64 0, .string zs, .slice A kids.len c] 29)
  have IHH := Lib.hid ih
  have _ := hT
  have _ := hK
  have _ := hl
  have _ := hok
  have _ := hwz
  have _ := hS
  have _ := hH
  clear ih
  go_enter Tryz.func23, Tryz.ntmps23
  go_wp2_with fail
  go_ret
  exact ⟨rfl, L0⟩

set_option maxRecDepth 20000 in
set_option maxHeartbeats 4000000 in
theorem sTextE_4 (K : Nat) (zs : ByteArray) (kids : Fr (Int × Int × ByteArray)) (A : Option Addr) (c : Nat) (w : World) (hK : kids.size ≤ K) (hl : kids.size ≤ 1048576) (hH : hereE (4, 0, zs) kids.len = true) (hok : okNA cntE.here kids = true) (hwz : zs.size + wt gExpr kids ≤ 1048576) (hT : Tab w) (hS : Sl exprC w 0 w.heap.size A kids) (ih : ∀ (kids : Fr (Int × Int × ByteArray)), kids.size < K → ∀ (zk zn : Int) (zs : ByteArray) (A : Option Addr) (c : Nat) (w : World), hereE (zk, zn, zs) kids.len = true → okNA cntE.here kids = true → zs.size + wt gExpr kids ≤ 1048576 → Tab w → Sl exprC w 0 w.heap.size A kids → Calls Tryz.prog 23 #[.agg #[.int .i64 zk, .int .i64 zn, .string zs, .slice A kids.len c]] w fun e w' => e = .returned (.string (txE (zk, zn, zs) (rowX kids))) ∧ Below w.heap.size w w') :
    Calls Tryz.prog 23 #[.agg #[.int .i64 4, .int .i64 0, .string zs, .slice A kids.len c]] w fun e w' => e = .returned (.string (txE (4, 0, zs) (rowX kids))) ∧ Below w.heap.size w w' := by
  have B := Blk.new w 29 #[.int .i64 4, .int .i64 0, .string zs, .slice A kids.len c]
  have L0 := bl_alloc (Below.refl w.heap.size w) (.cells #[.int .i64 4, .int .i64 0, .string zs, .slice A kids.len c] 29)
  have IHH := Lib.hid ih
  have _ := hT
  have _ := hK
  have _ := hl
  have _ := hok
  have _ := hwz
  have _ := hS
  have hkd := (kidsE_zero (by decide) hH).2
  have hlen : kids.len = 1 := by
    have := kindE_len hkd (by decide)
    simp at this
    omega
  clear hkd
  have hSW := (hS.below L0 (Nat.le_refl _)).more (Nat.le_refl _) L0.size
  have hTW := hT.keep L0
  obtain ⟨b, o, k0, n0, s0, x0, A0, c0, rfl, hb, hrow, ⟨hs0, hh0, ho0, hw0, hS0⟩, ⟨u00, u01, u02, u03⟩⟩ := one_E hSW hlen hok
  have cT0 := fun w' hT' hS' => ih x0 (by omega) k0 n0 s0 A0 c0 w' hh0 ho0 (by omega) hT' hS'
  have ht0 : (txE (k0, n0, s0) (rowX x0)).size ≤ 70000000 := txE_wt (by show s0.size + _ ≤ _; omega)
  have HE := Lib.hid (show txE (4, 0, zs) (rowX kids) = (((zs ++ ⟨#[91]⟩) ++ (txE (k0, n0, s0) (rowX x0))) ++ ⟨#[93]⟩) from by rw [hrow]; exact congrArg (fun (J_ : ByteArray) => (((zs ++ ⟨#[91]⟩) ++ J_) ++ ⟨#[93]⟩)) (jn_one (txE (k0, n0, s0) (rowX x0))))
  generalize txE (k0, n0, s0) (rowX x0) = t0 at cT0 ht0 HE
  have CT0 := Lib.hid cT0
  clear cT0 hh0 ho0
  have hl0 : (0 : Int) < (kids.len : Int) := by omega
  clear hrow ih hlen
  have z1 : (zs ++ ⟨#[91]⟩).size = zs.size + 1 := by rw [ByteArray.size_append]; rfl
  have z2 : ((zs ++ ⟨#[91]⟩) ++ t0).size = zs.size + 1 + t0.size := by rw [ByteArray.size_append, z1]
  have z3 : (((zs ++ ⟨#[91]⟩) ++ t0) ++ ⟨#[93]⟩).size = zs.size + 1 + t0.size + 1 := by rw [ByteArray.size_append, z2]; rfl
  go_enter Tryz.func23, Tryz.ntmps23
  go_wp2_with fail
  refine wp_region_held_drew (S := (fun y => Below (w.alloc (.cells #[.int .i64 4, .int .i64 0, .string zs, .slice (some ⟨b, o, none⟩) kids.len c] 29)).heap.size (w.alloc (.cells #[.int .i64 4, .int .i64 0, .string zs, .slice (some ⟨b, o, none⟩) kids.len c] 29)) y)) (by kernel_rfl) ?_ (fun hHeld => ?_)
  · exact (Below.refl _ _).drew
  refine wpAnyH_take (i := 0) (oi := ⟨some 22, _, _, _, _, _⟩) (v := ?_) rfl (by kernel_rfl) (by kernel_rfl) (by kernel_rfl) (fun _ _ _ h => h) (Or.inl ⟨by rfl, ?_⟩) (by assumption) ?_
  case refine_2 => (intro w hSw; skip; go_simp; first | done | with_reducible rfl)
  simp only [Act.put, qA, qB, qC]
  refine wpAnyH_take (i := 1) (oi := ⟨some 23, _, _, _, _, _⟩) (v := ?_) rfl (by kernel_rfl) (by kernel_rfl) (by kernel_rfl) (fun _ _ _ h => h) (Or.inl ⟨by rfl, ?_⟩) (by assumption) ?_
  case refine_2 => (intro w hSw; have p := (B.keep hSw).cell; have v00 := (hSw.cell (p := ⟨b, o, none⟩) hb).trans u00; have v01 := (hSw.cell (p := ⟨b, o + 1, none⟩) hb).trans u01; have v02 := (hSw.cell (p := ⟨b, o + 2, none⟩) hb).trans u02; have v03 := (hSw.cell (p := ⟨b, o + 3, none⟩) hb).trans u03; go_simp; first | done | with_reducible rfl)
  simp only [Act.put, qA, qB, qC]
  refine wpAnyH_take (i := 2) (oi := ⟨some 24, _, _, _, _, _⟩) (v := ?_) rfl (by kernel_rfl) (by kernel_rfl) (by kernel_rfl) (fun _ _ _ h => h) (Or.inl ⟨by rfl, ?_⟩) (by assumption) ?_
  case refine_2 => (intro w hSw; skip; go_simp; (try rw [if_neg (by omega)]); first | done | with_reducible rfl)
  simp only [Act.put, qA, qB, qC]
  refine wpAnyH_take (i := 3) (oi := ⟨some 25, _, _, _, _, _⟩) (v := ?_) rfl (by kernel_rfl) (by kernel_rfl) (by kernel_rfl) (fun _ _ _ h => h) (Or.inl ⟨by rfl, ?_⟩) (by assumption) ?_
  case refine_2 => (intro w hSw; skip; go_simp; first | done | with_reducible rfl)
  simp only [Act.put, qA, qB, qC]
  refine wpAnyH_take (i := 4) (oi := ⟨some 26, _, _, _, _, _⟩) (v := ?_) rfl (by kernel_rfl) (by kernel_rfl) (by kernel_rfl) (fun _ _ _ h => h) (Or.inl ⟨by rfl, ?_⟩) (by assumption) ?_
  case refine_2 => (intro w hSw; have p := (B.keep hSw).cell; have v00 := (hSw.cell (p := ⟨b, o, none⟩) hb).trans u00; have v01 := (hSw.cell (p := ⟨b, o + 1, none⟩) hb).trans u01; have v02 := (hSw.cell (p := ⟨b, o + 2, none⟩) hb).trans u02; have v03 := (hSw.cell (p := ⟨b, o + 3, none⟩) hb).trans u03; go_simp; first | done | with_reducible rfl)
  simp only [Act.put, qA, qB, qC]
  refine wpAnyH_take (i := 5) (oi := ⟨some 27, _, _, _, _, _⟩) (v := ?_) rfl (by kernel_rfl) (by kernel_rfl) (by kernel_rfl) (fun _ _ _ h => h) (Or.inl ⟨by rfl, ?_⟩) (by assumption) ?_
  case refine_2 => (intro w hSw; skip; go_simp; (try rw [if_pos (by omega)]); first | done | with_reducible rfl)
  simp only [Act.put, qA, qB, qC]
  refine wpAnyH_take (i := 6) (oi := ⟨some 28, _, _, _, _, _⟩) (v := ?_) rfl (by kernel_rfl) (by kernel_rfl) (by kernel_rfl) (fun _ _ _ h => h) (Or.inl ⟨by rfl, ?_⟩) (by assumption) ?_
  case refine_2 => (intro w hSw; have p := (B.keep hSw).cell; have v00 := (hSw.cell (p := ⟨b, o, none⟩) hb).trans u00; have v01 := (hSw.cell (p := ⟨b, o + 1, none⟩) hb).trans u01; have v02 := (hSw.cell (p := ⟨b, o + 2, none⟩) hb).trans u02; have v03 := (hSw.cell (p := ⟨b, o + 3, none⟩) hb).trans u03; go_simp; first | done | with_reducible rfl)
  simp only [Act.put, qA, qB, qC]
  refine wpAnyH_ready (rs := [7]) (by kernel_rfl) (by simp) ?_
  refine AllReadyH.cons (o := ⟨some 29, _, _, _, _, _⟩) rfl (fun K hK => ?_) AllReadyH.nil
  go_simp
  refine (CT0.out _ (hTW.keep hHeld) ((hS0.below hHeld (Nat.le_refl _)).more (Nat.le_refl _) hHeld.size)).mono ?_; rintro e y0 ⟨rfl, by0⟩
  go_wp2_with fail
  refine hK.out _ _ (bl_trans hHeld by0) (fun hHeld => ?_)
  clear hK K
  try simp only [Act.put, qA, qB, qC]
  refine wpAnyH_take (i := 8) (oi := ⟨some 30, _, _, _, _, _⟩) (v := ?_) rfl (by kernel_rfl) (by kernel_rfl) (by kernel_rfl) (fun _ _ _ h => h) (Or.inl ⟨by rfl, ?_⟩) (by assumption) ?_
  case refine_2 => (intro w hSw; skip; go_simp; (try rw [if_neg (by omega)]); first | done | with_reducible rfl)
  simp only [Act.put, qA, qB, qC]
  refine wpAnyH_take (i := 9) (oi := ⟨some 31, _, _, _, _, _⟩) (v := ?_) rfl (by kernel_rfl) (by kernel_rfl) (by kernel_rfl) (fun _ _ _ h => h) (Or.inl ⟨by rfl, ?_⟩) (by assumption) ?_
  case refine_2 => (intro w hSw; skip; go_simp; (try rw [if_neg (by omega)]); first | done | with_reducible rfl)
  simp only [Act.put, qA, qB, qC]
  refine wpAnyH_take (i := 10) (oi := ⟨some 2, _, _, _, _, _⟩) (v := ?_) rfl (by kernel_rfl) (by kernel_rfl) (by kernel_rfl) (fun _ _ _ h => h) (Or.inl ⟨by rfl, ?_⟩) (by assumption) ?_
  case refine_2 => (intro w hSw; skip; go_simp; first | done | with_reducible rfl)
  simp only [Act.put, qA, qB, qC]
  refine wpAnyH_done (by kernel_rfl) ?_ _
  go_wp2_with fail
  go_ret
  exact ⟨ret_str HE.out.symm, bl_trans L0 hHeld⟩

set_option maxRecDepth 20000 in
set_option maxHeartbeats 4000000 in
theorem sTextE_5 (K : Nat) (zs : ByteArray) (kids : Fr (Int × Int × ByteArray)) (A : Option Addr) (c : Nat) (w : World) (hK : kids.size ≤ K) (hl : kids.size ≤ 1048576) (hH : hereE (5, 0, zs) kids.len = true) (hok : okNA cntE.here kids = true) (hwz : zs.size + wt gExpr kids ≤ 1048576) (hT : Tab w) (hS : Sl exprC w 0 w.heap.size A kids) (ih : ∀ (kids : Fr (Int × Int × ByteArray)), kids.size < K → ∀ (zk zn : Int) (zs : ByteArray) (A : Option Addr) (c : Nat) (w : World), hereE (zk, zn, zs) kids.len = true → okNA cntE.here kids = true → zs.size + wt gExpr kids ≤ 1048576 → Tab w → Sl exprC w 0 w.heap.size A kids → Calls Tryz.prog 23 #[.agg #[.int .i64 zk, .int .i64 zn, .string zs, .slice A kids.len c]] w fun e w' => e = .returned (.string (txE (zk, zn, zs) (rowX kids))) ∧ Below w.heap.size w w') :
    Calls Tryz.prog 23 #[.agg #[.int .i64 5, .int .i64 0, .string zs, .slice A kids.len c]] w fun e w' => e = .returned (.string (txE (5, 0, zs) (rowX kids))) ∧ Below w.heap.size w w' := by
  have B := Blk.new w 29 #[.int .i64 5, .int .i64 0, .string zs, .slice A kids.len c]
  have L0 := bl_alloc (Below.refl w.heap.size w) (.cells #[.int .i64 5, .int .i64 0, .string zs, .slice A kids.len c] 29)
  have IHH := Lib.hid ih
  have _ := hT
  have _ := hK
  have _ := hl
  have _ := hok
  have _ := hwz
  have _ := hS
  have hkd := (kidsE_zero (by decide) hH).2
  have hlen : kids.len = 1 := by
    have := kindE_len hkd (by decide)
    simp at this
    omega
  clear hkd
  have hSW := (hS.below L0 (Nat.le_refl _)).more (Nat.le_refl _) L0.size
  have hTW := hT.keep L0
  obtain ⟨b, o, k0, n0, s0, x0, A0, c0, rfl, hb, hrow, ⟨hs0, hh0, ho0, hw0, hS0⟩, ⟨u00, u01, u02, u03⟩⟩ := one_E hSW hlen hok
  have cT0 := fun w' hT' hS' => ih x0 (by omega) k0 n0 s0 A0 c0 w' hh0 ho0 (by omega) hT' hS'
  have ht0 : (txE (k0, n0, s0) (rowX x0)).size ≤ 70000000 := txE_wt (by show s0.size + _ ≤ _; omega)
  have HE := Lib.hid (show txE (5, 0, zs) (rowX kids) = ((⟨#[36]⟩ : ByteArray) ++ (txE (k0, n0, s0) (rowX x0))) from by rw [hrow]; exact congrArg (fun (J_ : ByteArray) => ((⟨#[36]⟩ : ByteArray) ++ J_)) (jn_one (txE (k0, n0, s0) (rowX x0))))
  generalize txE (k0, n0, s0) (rowX x0) = t0 at cT0 ht0 HE
  have CT0 := Lib.hid cT0
  clear cT0 hh0 ho0
  have hl0 : (0 : Int) < (kids.len : Int) := by omega
  clear hrow ih hlen
  have z1 : ((⟨#[36]⟩ : ByteArray) ++ t0).size = 1 + t0.size := by rw [ByteArray.size_append]; rfl
  go_enter Tryz.func23, Tryz.ntmps23
  go_wp2_with fail
  refine (CT0.out _ hTW hS0).mono ?_; rintro e y0 ⟨rfl, by0⟩
  go_wp2_with fail
  go_ret
  exact ⟨ret_str HE.out.symm, bl_trans L0 by0⟩

set_option maxRecDepth 20000 in
set_option maxHeartbeats 4000000 in
theorem sTextE_6 (K : Nat) (zs : ByteArray) (kids : Fr (Int × Int × ByteArray)) (A : Option Addr) (c : Nat) (w : World) (hK : kids.size ≤ K) (hl : kids.size ≤ 1048576) (hH : hereE (6, 0, zs) kids.len = true) (hok : okNA cntE.here kids = true) (hwz : zs.size + wt gExpr kids ≤ 1048576) (hT : Tab w) (hS : Sl exprC w 0 w.heap.size A kids) (ih : ∀ (kids : Fr (Int × Int × ByteArray)), kids.size < K → ∀ (zk zn : Int) (zs : ByteArray) (A : Option Addr) (c : Nat) (w : World), hereE (zk, zn, zs) kids.len = true → okNA cntE.here kids = true → zs.size + wt gExpr kids ≤ 1048576 → Tab w → Sl exprC w 0 w.heap.size A kids → Calls Tryz.prog 23 #[.agg #[.int .i64 zk, .int .i64 zn, .string zs, .slice A kids.len c]] w fun e w' => e = .returned (.string (txE (zk, zn, zs) (rowX kids))) ∧ Below w.heap.size w w') :
    Calls Tryz.prog 23 #[.agg #[.int .i64 6, .int .i64 0, .string zs, .slice A kids.len c]] w fun e w' => e = .returned (.string (txE (6, 0, zs) (rowX kids))) ∧ Below w.heap.size w w' := by
  have B := Blk.new w 29 #[.int .i64 6, .int .i64 0, .string zs, .slice A kids.len c]
  have L0 := bl_alloc (Below.refl w.heap.size w) (.cells #[.int .i64 6, .int .i64 0, .string zs, .slice A kids.len c] 29)
  have IHH := Lib.hid ih
  have _ := hT
  have _ := hK
  have _ := hl
  have _ := hok
  have _ := hwz
  have _ := hS
  have hkd := (kidsE_zero (by decide) hH).2
  have hlen : kids.len = 2 := by
    have := kindE_len hkd (by decide)
    simp at this
    omega
  clear hkd
  have hSW := (hS.below L0 (Nat.le_refl _)).more (Nat.le_refl _) L0.size
  have hTW := hT.keep L0
  obtain ⟨b, o, k0, n0, s0, x0, A0, c0, k1, n1, s1, x1, A1, c1, rfl, hb, hrow, ⟨hs0, hh0, ho0, hw0, hS0⟩, ⟨hs1, hh1, ho1, hw1, hS1⟩, ⟨u00, u01, u02, u03⟩, ⟨u10, u11, u12, u13⟩⟩ := two_E hSW hlen hok
  have cT0 := fun w' hT' hS' => ih x0 (by omega) k0 n0 s0 A0 c0 w' hh0 ho0 (by omega) hT' hS'
  have ht0 : (txE (k0, n0, s0) (rowX x0)).size ≤ 70000000 := txE_wt (by show s0.size + _ ≤ _; omega)
  have cT1 := fun w' hT' hS' => ih x1 (by omega) k1 n1 s1 A1 c1 w' hh1 ho1 (by omega) hT' hS'
  have ht1 : (txE (k1, n1, s1) (rowX x1)).size ≤ 70000000 := txE_wt (by show s1.size + _ ≤ _; omega)
  have HE := Lib.hid (show txE (6, 0, zs) (rowX kids) = (((((((⟨#[40]⟩ : ByteArray) ++ (txE (k0, n0, s0) (rowX x0))) ++ ⟨#[32]⟩) ++ zs) ++ ⟨#[32]⟩) ++ (txE (k1, n1, s1) (rowX x1))) ++ ⟨#[41]⟩) from by rw [hrow]; rfl)
  generalize txE (k0, n0, s0) (rowX x0) = t0 at cT0 ht0 HE
  have CT0 := Lib.hid cT0
  clear cT0 hh0 ho0
  generalize txE (k1, n1, s1) (rowX x1) = t1 at cT1 ht1 HE
  have CT1 := Lib.hid cT1
  clear cT1 hh1 ho1
  have hl0 : (0 : Int) < (kids.len : Int) := by omega
  have hl1 : (1 : Int) < (kids.len : Int) := by omega
  clear hrow ih hlen
  have z1 : ((⟨#[40]⟩ : ByteArray) ++ t0).size = 1 + t0.size := by rw [ByteArray.size_append]; rfl
  have z2 : (((⟨#[40]⟩ : ByteArray) ++ t0) ++ ⟨#[32]⟩).size = 1 + t0.size + 1 := by rw [ByteArray.size_append, z1]; rfl
  have z3 : ((((⟨#[40]⟩ : ByteArray) ++ t0) ++ ⟨#[32]⟩) ++ zs).size = 1 + t0.size + 1 + zs.size := by rw [ByteArray.size_append, z2]
  have z4 : (((((⟨#[40]⟩ : ByteArray) ++ t0) ++ ⟨#[32]⟩) ++ zs) ++ ⟨#[32]⟩).size = 1 + t0.size + 1 + zs.size + 1 := by rw [ByteArray.size_append, z3]; rfl
  have z5 : ((((((⟨#[40]⟩ : ByteArray) ++ t0) ++ ⟨#[32]⟩) ++ zs) ++ ⟨#[32]⟩) ++ t1).size = 1 + t0.size + 1 + zs.size + 1 + t1.size := by rw [ByteArray.size_append, z4]
  have z6 : (((((((⟨#[40]⟩ : ByteArray) ++ t0) ++ ⟨#[32]⟩) ++ zs) ++ ⟨#[32]⟩) ++ t1) ++ ⟨#[41]⟩).size = 1 + t0.size + 1 + zs.size + 1 + t1.size + 1 := by rw [ByteArray.size_append, z5]; rfl
  go_enter Tryz.func23, Tryz.ntmps23
  go_wp2_with fail
  refine wp_region_held_drew (S := (fun y => Below (w.alloc (.cells #[.int .i64 6, .int .i64 0, .string zs, .slice (some ⟨b, o, none⟩) kids.len c] 29)).heap.size (w.alloc (.cells #[.int .i64 6, .int .i64 0, .string zs, .slice (some ⟨b, o, none⟩) kids.len c] 29)) y)) (by kernel_rfl) ?_ (fun hHeld => ?_)
  · exact (Below.refl _ _).drew
  refine wpAnyH_take (i := 0) (oi := ⟨some 42, _, _, _, _, _⟩) (v := ?_) rfl (by kernel_rfl) (by kernel_rfl) (by kernel_rfl) (fun _ _ _ h => h) (Or.inl ⟨by rfl, ?_⟩) (by assumption) ?_
  case refine_2 => (intro w hSw; skip; go_simp; first | done | with_reducible rfl)
  simp only [Act.put, qA, qB, qC]
  refine wpAnyH_take (i := 1) (oi := ⟨some 43, _, _, _, _, _⟩) (v := ?_) rfl (by kernel_rfl) (by kernel_rfl) (by kernel_rfl) (fun _ _ _ h => h) (Or.inl ⟨by rfl, ?_⟩) (by assumption) ?_
  case refine_2 => (intro w hSw; have p := (B.keep hSw).cell; have v00 := (hSw.cell (p := ⟨b, o, none⟩) hb).trans u00; have v01 := (hSw.cell (p := ⟨b, o + 1, none⟩) hb).trans u01; have v02 := (hSw.cell (p := ⟨b, o + 2, none⟩) hb).trans u02; have v03 := (hSw.cell (p := ⟨b, o + 3, none⟩) hb).trans u03; have v10 := (hSw.cell (p := ⟨b, o + 4, none⟩) hb).trans u10; have v11 := (hSw.cell (p := ⟨b, o + 4 + 1, none⟩) hb).trans u11; have v12 := (hSw.cell (p := ⟨b, o + 4 + 2, none⟩) hb).trans u12; have v13 := (hSw.cell (p := ⟨b, o + 4 + 3, none⟩) hb).trans u13; go_simp; first | done | with_reducible rfl)
  simp only [Act.put, qA, qB, qC]
  refine wpAnyH_take (i := 2) (oi := ⟨some 44, _, _, _, _, _⟩) (v := ?_) rfl (by kernel_rfl) (by kernel_rfl) (by kernel_rfl) (fun _ _ _ h => h) (Or.inl ⟨by rfl, ?_⟩) (by assumption) ?_
  case refine_2 => (intro w hSw; skip; go_simp; (try rw [if_pos (by omega)]); first | done | with_reducible rfl)
  simp only [Act.put, qA, qB, qC]
  refine wpAnyH_take (i := 3) (oi := ⟨some 45, _, _, _, _, _⟩) (v := ?_) rfl (by kernel_rfl) (by kernel_rfl) (by kernel_rfl) (fun _ _ _ h => h) (Or.inl ⟨by rfl, ?_⟩) (by assumption) ?_
  case refine_2 => (intro w hSw; have p := (B.keep hSw).cell; have v00 := (hSw.cell (p := ⟨b, o, none⟩) hb).trans u00; have v01 := (hSw.cell (p := ⟨b, o + 1, none⟩) hb).trans u01; have v02 := (hSw.cell (p := ⟨b, o + 2, none⟩) hb).trans u02; have v03 := (hSw.cell (p := ⟨b, o + 3, none⟩) hb).trans u03; have v10 := (hSw.cell (p := ⟨b, o + 4, none⟩) hb).trans u10; have v11 := (hSw.cell (p := ⟨b, o + 4 + 1, none⟩) hb).trans u11; have v12 := (hSw.cell (p := ⟨b, o + 4 + 2, none⟩) hb).trans u12; have v13 := (hSw.cell (p := ⟨b, o + 4 + 3, none⟩) hb).trans u13; go_simp; first | done | with_reducible rfl)
  simp only [Act.put, qA, qB, qC]
  refine wpAnyH_take (i := 7) (oi := ⟨some 49, _, _, _, _, _⟩) (v := ?_) rfl (by kernel_rfl) (by kernel_rfl) (by kernel_rfl) (fun _ _ _ h => h) (Or.inl ⟨by rfl, ?_⟩) (by assumption) ?_
  case refine_2 => (intro w hSw; skip; go_simp; first | done | with_reducible rfl)
  simp only [Act.put, qA, qB, qC]
  refine wpAnyH_take (i := 8) (oi := ⟨some 50, _, _, _, _, _⟩) (v := ?_) rfl (by kernel_rfl) (by kernel_rfl) (by kernel_rfl) (fun _ _ _ h => h) (Or.inl ⟨by rfl, ?_⟩) (by assumption) ?_
  case refine_2 => (intro w hSw; have p := (B.keep hSw).cell; have v00 := (hSw.cell (p := ⟨b, o, none⟩) hb).trans u00; have v01 := (hSw.cell (p := ⟨b, o + 1, none⟩) hb).trans u01; have v02 := (hSw.cell (p := ⟨b, o + 2, none⟩) hb).trans u02; have v03 := (hSw.cell (p := ⟨b, o + 3, none⟩) hb).trans u03; have v10 := (hSw.cell (p := ⟨b, o + 4, none⟩) hb).trans u10; have v11 := (hSw.cell (p := ⟨b, o + 4 + 1, none⟩) hb).trans u11; have v12 := (hSw.cell (p := ⟨b, o + 4 + 2, none⟩) hb).trans u12; have v13 := (hSw.cell (p := ⟨b, o + 4 + 3, none⟩) hb).trans u13; go_simp; first | done | with_reducible rfl)
  simp only [Act.put, qA, qB, qC]
  refine wpAnyH_take (i := 11) (oi := ⟨some 53, _, _, _, _, _⟩) (v := ?_) rfl (by kernel_rfl) (by kernel_rfl) (by kernel_rfl) (fun _ _ _ h => h) (Or.inl ⟨by rfl, ?_⟩) (by assumption) ?_
  case refine_2 => (intro w hSw; skip; go_simp; first | done | with_reducible rfl)
  simp only [Act.put, qA, qB, qC]
  refine wpAnyH_take (i := 12) (oi := ⟨some 54, _, _, _, _, _⟩) (v := ?_) rfl (by kernel_rfl) (by kernel_rfl) (by kernel_rfl) (fun _ _ _ h => h) (Or.inl ⟨by rfl, ?_⟩) (by assumption) ?_
  case refine_2 => (intro w hSw; have p := (B.keep hSw).cell; have v00 := (hSw.cell (p := ⟨b, o, none⟩) hb).trans u00; have v01 := (hSw.cell (p := ⟨b, o + 1, none⟩) hb).trans u01; have v02 := (hSw.cell (p := ⟨b, o + 2, none⟩) hb).trans u02; have v03 := (hSw.cell (p := ⟨b, o + 3, none⟩) hb).trans u03; have v10 := (hSw.cell (p := ⟨b, o + 4, none⟩) hb).trans u10; have v11 := (hSw.cell (p := ⟨b, o + 4 + 1, none⟩) hb).trans u11; have v12 := (hSw.cell (p := ⟨b, o + 4 + 2, none⟩) hb).trans u12; have v13 := (hSw.cell (p := ⟨b, o + 4 + 3, none⟩) hb).trans u13; go_simp; first | done | with_reducible rfl)
  simp only [Act.put, qA, qB, qC]
  refine wpAnyH_take (i := 13) (oi := ⟨some 55, _, _, _, _, _⟩) (v := ?_) rfl (by kernel_rfl) (by kernel_rfl) (by kernel_rfl) (fun _ _ _ h => h) (Or.inl ⟨by rfl, ?_⟩) (by assumption) ?_
  case refine_2 => (intro w hSw; skip; go_simp; (try rw [if_pos (by omega)]); first | done | with_reducible rfl)
  simp only [Act.put, qA, qB, qC]
  refine wpAnyH_take (i := 14) (oi := ⟨some 56, _, _, _, _, _⟩) (v := ?_) rfl (by kernel_rfl) (by kernel_rfl) (by kernel_rfl) (fun _ _ _ h => h) (Or.inl ⟨by rfl, ?_⟩) (by assumption) ?_
  case refine_2 => (intro w hSw; have p := (B.keep hSw).cell; have v00 := (hSw.cell (p := ⟨b, o, none⟩) hb).trans u00; have v01 := (hSw.cell (p := ⟨b, o + 1, none⟩) hb).trans u01; have v02 := (hSw.cell (p := ⟨b, o + 2, none⟩) hb).trans u02; have v03 := (hSw.cell (p := ⟨b, o + 3, none⟩) hb).trans u03; have v10 := (hSw.cell (p := ⟨b, o + 4, none⟩) hb).trans u10; have v11 := (hSw.cell (p := ⟨b, o + 4 + 1, none⟩) hb).trans u11; have v12 := (hSw.cell (p := ⟨b, o + 4 + 2, none⟩) hb).trans u12; have v13 := (hSw.cell (p := ⟨b, o + 4 + 3, none⟩) hb).trans u13; go_simp; first | done | with_reducible rfl)
  simp only [Act.put, qA, qB, qC]
  refine wpAnyH_ready (rs := [4]) (by kernel_rfl) (by simp) ?_
  refine AllReadyH.cons (o := ⟨some 46, _, _, _, _, _⟩) rfl (fun K hK => ?_) AllReadyH.nil
  go_simp
  refine (CT0.out _ (hTW.keep hHeld) ((hS0.below hHeld (Nat.le_refl _)).more (Nat.le_refl _) hHeld.size)).mono ?_; rintro e y0 ⟨rfl, by0⟩
  go_wp2_with fail
  refine hK.out _ _ (bl_trans hHeld by0) (fun hHeld => ?_)
  clear hK K
  try simp only [Act.put, qA, qB, qC]
  refine wpAnyH_take (i := 5) (oi := ⟨some 47, _, _, _, _, _⟩) (v := ?_) rfl (by kernel_rfl) (by kernel_rfl) (by kernel_rfl) (fun _ _ _ h => h) (Or.inl ⟨by rfl, ?_⟩) (by assumption) ?_
  case refine_2 => (intro w hSw; skip; go_simp; (try rw [if_neg (by omega)]); first | done | with_reducible rfl)
  simp only [Act.put, qA, qB, qC]
  refine wpAnyH_take (i := 6) (oi := ⟨some 48, _, _, _, _, _⟩) (v := ?_) rfl (by kernel_rfl) (by kernel_rfl) (by kernel_rfl) (fun _ _ _ h => h) (Or.inl ⟨by rfl, ?_⟩) (by assumption) ?_
  case refine_2 => (intro w hSw; skip; go_simp; (try rw [if_neg (by omega)]); first | done | with_reducible rfl)
  simp only [Act.put, qA, qB, qC]
  refine wpAnyH_take (i := 9) (oi := ⟨some 51, _, _, _, _, _⟩) (v := ?_) rfl (by kernel_rfl) (by kernel_rfl) (by kernel_rfl) (fun _ _ _ h => h) (Or.inl ⟨by rfl, ?_⟩) (by assumption) ?_
  case refine_2 => (intro w hSw; skip; go_simp; (try rw [if_neg (by omega)]); first | done | with_reducible rfl)
  simp only [Act.put, qA, qB, qC]
  refine wpAnyH_take (i := 10) (oi := ⟨some 52, _, _, _, _, _⟩) (v := ?_) rfl (by kernel_rfl) (by kernel_rfl) (by kernel_rfl) (fun _ _ _ h => h) (Or.inl ⟨by rfl, ?_⟩) (by assumption) ?_
  case refine_2 => (intro w hSw; skip; go_simp; (try rw [if_neg (by omega)]); first | done | with_reducible rfl)
  simp only [Act.put, qA, qB, qC]
  refine wpAnyH_ready (rs := [15]) (by kernel_rfl) (by simp) ?_
  refine AllReadyH.cons (o := ⟨some 57, _, _, _, _, _⟩) rfl (fun K hK => ?_) AllReadyH.nil
  go_simp
  refine (CT1.out _ (hTW.keep hHeld) ((hS1.below hHeld (Nat.le_refl _)).more (Nat.le_refl _) hHeld.size)).mono ?_; rintro e y1 ⟨rfl, by1⟩
  go_wp2_with fail
  refine hK.out _ _ (bl_trans hHeld by1) (fun hHeld => ?_)
  clear hK K
  try simp only [Act.put, qA, qB, qC]
  refine wpAnyH_take (i := 16) (oi := ⟨some 58, _, _, _, _, _⟩) (v := ?_) rfl (by kernel_rfl) (by kernel_rfl) (by kernel_rfl) (fun _ _ _ h => h) (Or.inl ⟨by rfl, ?_⟩) (by assumption) ?_
  case refine_2 => (intro w hSw; skip; go_simp; (try rw [if_neg (by omega)]); first | done | with_reducible rfl)
  simp only [Act.put, qA, qB, qC]
  refine wpAnyH_take (i := 17) (oi := ⟨some 59, _, _, _, _, _⟩) (v := ?_) rfl (by kernel_rfl) (by kernel_rfl) (by kernel_rfl) (fun _ _ _ h => h) (Or.inl ⟨by rfl, ?_⟩) (by assumption) ?_
  case refine_2 => (intro w hSw; skip; go_simp; (try rw [if_neg (by omega)]); first | done | with_reducible rfl)
  simp only [Act.put, qA, qB, qC]
  refine wpAnyH_take (i := 18) (oi := ⟨some 2, _, _, _, _, _⟩) (v := ?_) rfl (by kernel_rfl) (by kernel_rfl) (by kernel_rfl) (fun _ _ _ h => h) (Or.inl ⟨by rfl, ?_⟩) (by assumption) ?_
  case refine_2 => (intro w hSw; skip; go_simp; first | done | with_reducible rfl)
  simp only [Act.put, qA, qB, qC]
  refine wpAnyH_done (by kernel_rfl) ?_ _
  go_wp2_with fail
  go_ret
  exact ⟨ret_str HE.out.symm, bl_trans L0 hHeld⟩

set_option maxRecDepth 20000 in
set_option maxHeartbeats 4000000 in
theorem sTextE_7 (K : Nat) (zs : ByteArray) (kids : Fr (Int × Int × ByteArray)) (A : Option Addr) (c : Nat) (w : World) (hK : kids.size ≤ K) (hl : kids.size ≤ 1048576) (hH : hereE (7, 0, zs) kids.len = true) (hok : okNA cntE.here kids = true) (hwz : zs.size + wt gExpr kids ≤ 1048576) (hT : Tab w) (hS : Sl exprC w 0 w.heap.size A kids) (ih : ∀ (kids : Fr (Int × Int × ByteArray)), kids.size < K → ∀ (zk zn : Int) (zs : ByteArray) (A : Option Addr) (c : Nat) (w : World), hereE (zk, zn, zs) kids.len = true → okNA cntE.here kids = true → zs.size + wt gExpr kids ≤ 1048576 → Tab w → Sl exprC w 0 w.heap.size A kids → Calls Tryz.prog 23 #[.agg #[.int .i64 zk, .int .i64 zn, .string zs, .slice A kids.len c]] w fun e w' => e = .returned (.string (txE (zk, zn, zs) (rowX kids))) ∧ Below w.heap.size w w') :
    Calls Tryz.prog 23 #[.agg #[.int .i64 7, .int .i64 0, .string zs, .slice A kids.len c]] w fun e w' => e = .returned (.string (txE (7, 0, zs) (rowX kids))) ∧ Below w.heap.size w w' := by
  have B := Blk.new w 29 #[.int .i64 7, .int .i64 0, .string zs, .slice A kids.len c]
  have L0 := bl_alloc (Below.refl w.heap.size w) (.cells #[.int .i64 7, .int .i64 0, .string zs, .slice A kids.len c] 29)
  have IHH := Lib.hid ih
  have _ := hT
  have _ := hK
  have _ := hl
  have _ := hok
  have _ := hwz
  have _ := hS
  have hkd := (kidsE_zero (by decide) hH).2
  have hlen : kids.len = 1 := by
    have := kindE_len hkd (by decide)
    simp at this
    omega
  clear hkd
  have hSW := (hS.below L0 (Nat.le_refl _)).more (Nat.le_refl _) L0.size
  have hTW := hT.keep L0
  obtain ⟨b, o, k0, n0, s0, x0, A0, c0, rfl, hb, hrow, ⟨hs0, hh0, ho0, hw0, hS0⟩, ⟨u00, u01, u02, u03⟩⟩ := one_E hSW hlen hok
  have cT0 := fun w' hT' hS' => ih x0 (by omega) k0 n0 s0 A0 c0 w' hh0 ho0 (by omega) hT' hS'
  have ht0 : (txE (k0, n0, s0) (rowX x0)).size ≤ 70000000 := txE_wt (by show s0.size + _ ≤ _; omega)
  have HE := Lib.hid (show txE (7, 0, zs) (rowX kids) = ((⟨#[33]⟩ : ByteArray) ++ (txE (k0, n0, s0) (rowX x0))) from by rw [hrow]; exact congrArg (fun (J_ : ByteArray) => ((⟨#[33]⟩ : ByteArray) ++ J_)) (jn_one (txE (k0, n0, s0) (rowX x0))))
  generalize txE (k0, n0, s0) (rowX x0) = t0 at cT0 ht0 HE
  have CT0 := Lib.hid cT0
  clear cT0 hh0 ho0
  have hl0 : (0 : Int) < (kids.len : Int) := by omega
  clear hrow ih hlen
  have z1 : ((⟨#[33]⟩ : ByteArray) ++ t0).size = 1 + t0.size := by rw [ByteArray.size_append]; rfl
  go_enter Tryz.func23, Tryz.ntmps23
  go_wp2_with fail
  refine (CT0.out _ hTW hS0).mono ?_; rintro e y0 ⟨rfl, by0⟩
  go_wp2_with fail
  go_ret
  exact ⟨ret_str HE.out.symm, bl_trans L0 by0⟩

set_option maxRecDepth 20000 in
set_option maxHeartbeats 4000000 in
theorem sTextE_8 (K : Nat) (zs : ByteArray) (kids : Fr (Int × Int × ByteArray)) (A : Option Addr) (c : Nat) (w : World) (hK : kids.size ≤ K) (hl : kids.size ≤ 1048576) (hH : hereE (8, 0, zs) kids.len = true) (hok : okNA cntE.here kids = true) (hwz : zs.size + wt gExpr kids ≤ 1048576) (hT : Tab w) (hS : Sl exprC w 0 w.heap.size A kids) (ih : ∀ (kids : Fr (Int × Int × ByteArray)), kids.size < K → ∀ (zk zn : Int) (zs : ByteArray) (A : Option Addr) (c : Nat) (w : World), hereE (zk, zn, zs) kids.len = true → okNA cntE.here kids = true → zs.size + wt gExpr kids ≤ 1048576 → Tab w → Sl exprC w 0 w.heap.size A kids → Calls Tryz.prog 23 #[.agg #[.int .i64 zk, .int .i64 zn, .string zs, .slice A kids.len c]] w fun e w' => e = .returned (.string (txE (zk, zn, zs) (rowX kids))) ∧ Below w.heap.size w w') :
    Calls Tryz.prog 23 #[.agg #[.int .i64 8, .int .i64 0, .string zs, .slice A kids.len c]] w fun e w' => e = .returned (.string (txE (8, 0, zs) (rowX kids))) ∧ Below w.heap.size w w' := by
  have B := Blk.new w 29 #[.int .i64 8, .int .i64 0, .string zs, .slice A kids.len c]
  have L0 := bl_alloc (Below.refl w.heap.size w) (.cells #[.int .i64 8, .int .i64 0, .string zs, .slice A kids.len c] 29)
  have IHH := Lib.hid ih
  have _ := hT
  have _ := hK
  have _ := hl
  have _ := hok
  have _ := hwz
  have _ := hS
  have hkd := (kidsE_zero (by decide) hH).2
  have hlen : kids.len = 1 := by
    have := kindE_len hkd (by decide)
    simp at this
    omega
  clear hkd
  have hSW := (hS.below L0 (Nat.le_refl _)).more (Nat.le_refl _) L0.size
  have hTW := hT.keep L0
  obtain ⟨b, o, k0, n0, s0, x0, A0, c0, rfl, hb, hrow, ⟨hs0, hh0, ho0, hw0, hS0⟩, ⟨u00, u01, u02, u03⟩⟩ := one_E hSW hlen hok
  have cT0 := fun w' hT' hS' => ih x0 (by omega) k0 n0 s0 A0 c0 w' hh0 ho0 (by omega) hT' hS'
  have ht0 : (txE (k0, n0, s0) (rowX x0)).size ≤ 70000000 := txE_wt (by show s0.size + _ ≤ _; omega)
  have HE := Lib.hid (show txE (8, 0, zs) (rowX kids) = ((⟨#[45]⟩ : ByteArray) ++ (txE (k0, n0, s0) (rowX x0))) from by rw [hrow]; exact congrArg (fun (J_ : ByteArray) => ((⟨#[45]⟩ : ByteArray) ++ J_)) (jn_one (txE (k0, n0, s0) (rowX x0))))
  generalize txE (k0, n0, s0) (rowX x0) = t0 at cT0 ht0 HE
  have CT0 := Lib.hid cT0
  clear cT0 hh0 ho0
  have hl0 : (0 : Int) < (kids.len : Int) := by omega
  clear hrow ih hlen
  have z1 : ((⟨#[45]⟩ : ByteArray) ++ t0).size = 1 + t0.size := by rw [ByteArray.size_append]; rfl
  go_enter Tryz.func23, Tryz.ntmps23
  go_wp2_with fail
  refine (CT0.out _ hTW hS0).mono ?_; rintro e y0 ⟨rfl, by0⟩
  go_wp2_with fail
  go_ret
  exact ⟨ret_str HE.out.symm, bl_trans L0 by0⟩

set_option maxRecDepth 20000 in
set_option maxHeartbeats 4000000 in
theorem sTextE_9 (K : Nat) (zs : ByteArray) (kids : Fr (Int × Int × ByteArray)) (A : Option Addr) (c : Nat) (w : World) (hK : kids.size ≤ K) (hl : kids.size ≤ 1048576) (hH : hereE (9, 0, zs) kids.len = true) (hok : okNA cntE.here kids = true) (hwz : zs.size + wt gExpr kids ≤ 1048576) (hT : Tab w) (hS : Sl exprC w 0 w.heap.size A kids) (ih : ∀ (kids : Fr (Int × Int × ByteArray)), kids.size < K → ∀ (zk zn : Int) (zs : ByteArray) (A : Option Addr) (c : Nat) (w : World), hereE (zk, zn, zs) kids.len = true → okNA cntE.here kids = true → zs.size + wt gExpr kids ≤ 1048576 → Tab w → Sl exprC w 0 w.heap.size A kids → Calls Tryz.prog 23 #[.agg #[.int .i64 zk, .int .i64 zn, .string zs, .slice A kids.len c]] w fun e w' => e = .returned (.string (txE (zk, zn, zs) (rowX kids))) ∧ Below w.heap.size w w') :
    Calls Tryz.prog 23 #[.agg #[.int .i64 9, .int .i64 0, .string zs, .slice A kids.len c]] w fun e w' => e = .returned (.string (txE (9, 0, zs) (rowX kids))) ∧ Below w.heap.size w w' := by
  have B := Blk.new w 29 #[.int .i64 9, .int .i64 0, .string zs, .slice A kids.len c]
  have L0 := bl_alloc (Below.refl w.heap.size w) (.cells #[.int .i64 9, .int .i64 0, .string zs, .slice A kids.len c] 29)
  have IHH := Lib.hid ih
  have _ := hT
  have _ := hK
  have _ := hl
  have _ := hok
  have _ := hwz
  have _ := hS
  have hkd := (kidsE_zero (by decide) hH).2
  have hlen : kids.len = 1 := by
    have := kindE_len hkd (by decide)
    simp at this
    omega
  clear hkd
  have hSW := (hS.below L0 (Nat.le_refl _)).more (Nat.le_refl _) L0.size
  have hTW := hT.keep L0
  obtain ⟨b, o, k0, n0, s0, x0, A0, c0, rfl, hb, hrow, ⟨hs0, hh0, ho0, hw0, hS0⟩, ⟨u00, u01, u02, u03⟩⟩ := one_E hSW hlen hok
  have cT0 := fun w' hT' hS' => ih x0 (by omega) k0 n0 s0 A0 c0 w' hh0 ho0 (by omega) hT' hS'
  have ht0 : (txE (k0, n0, s0) (rowX x0)).size ≤ 70000000 := txE_wt (by show s0.size + _ ≤ _; omega)
  have HE := Lib.hid (show txE (9, 0, zs) (rowX kids) = (((((⟨#[40]⟩ : ByteArray) ++ (txE (k0, n0, s0) (rowX x0))) ++ ⟨#[32, 105, 110, 32]⟩) ++ zs) ++ ⟨#[41]⟩) from by rw [hrow]; exact congrArg (fun (J_ : ByteArray) => (((((⟨#[40]⟩ : ByteArray) ++ J_) ++ ⟨#[32, 105, 110, 32]⟩) ++ zs) ++ ⟨#[41]⟩)) (jn_one (txE (k0, n0, s0) (rowX x0))))
  generalize txE (k0, n0, s0) (rowX x0) = t0 at cT0 ht0 HE
  have CT0 := Lib.hid cT0
  clear cT0 hh0 ho0
  have hl0 : (0 : Int) < (kids.len : Int) := by omega
  clear hrow ih hlen
  have z1 : ((⟨#[40]⟩ : ByteArray) ++ t0).size = 1 + t0.size := by rw [ByteArray.size_append]; rfl
  have z2 : (((⟨#[40]⟩ : ByteArray) ++ t0) ++ ⟨#[32, 105, 110, 32]⟩).size = 1 + t0.size + 4 := by rw [ByteArray.size_append, z1]; rfl
  have z3 : ((((⟨#[40]⟩ : ByteArray) ++ t0) ++ ⟨#[32, 105, 110, 32]⟩) ++ zs).size = 1 + t0.size + 4 + zs.size := by rw [ByteArray.size_append, z2]
  have z4 : (((((⟨#[40]⟩ : ByteArray) ++ t0) ++ ⟨#[32, 105, 110, 32]⟩) ++ zs) ++ ⟨#[41]⟩).size = 1 + t0.size + 4 + zs.size + 1 := by rw [ByteArray.size_append, z3]; rfl
  go_enter Tryz.func23, Tryz.ntmps23
  go_wp2_with fail
  refine wp_region_held_drew (S := (fun y => Below (w.alloc (.cells #[.int .i64 9, .int .i64 0, .string zs, .slice (some ⟨b, o, none⟩) kids.len c] 29)).heap.size (w.alloc (.cells #[.int .i64 9, .int .i64 0, .string zs, .slice (some ⟨b, o, none⟩) kids.len c] 29)) y)) (by kernel_rfl) ?_ (fun hHeld => ?_)
  · exact (Below.refl _ _).drew
  refine wpAnyH_take (i := 0) (oi := ⟨some 78, _, _, _, _, _⟩) (v := ?_) rfl (by kernel_rfl) (by kernel_rfl) (by kernel_rfl) (fun _ _ _ h => h) (Or.inl ⟨by rfl, ?_⟩) (by assumption) ?_
  case refine_2 => (intro w hSw; skip; go_simp; first | done | with_reducible rfl)
  simp only [Act.put, qA, qB, qC]
  refine wpAnyH_take (i := 1) (oi := ⟨some 79, _, _, _, _, _⟩) (v := ?_) rfl (by kernel_rfl) (by kernel_rfl) (by kernel_rfl) (fun _ _ _ h => h) (Or.inl ⟨by rfl, ?_⟩) (by assumption) ?_
  case refine_2 => (intro w hSw; have p := (B.keep hSw).cell; have v00 := (hSw.cell (p := ⟨b, o, none⟩) hb).trans u00; have v01 := (hSw.cell (p := ⟨b, o + 1, none⟩) hb).trans u01; have v02 := (hSw.cell (p := ⟨b, o + 2, none⟩) hb).trans u02; have v03 := (hSw.cell (p := ⟨b, o + 3, none⟩) hb).trans u03; go_simp; first | done | with_reducible rfl)
  simp only [Act.put, qA, qB, qC]
  refine wpAnyH_take (i := 2) (oi := ⟨some 80, _, _, _, _, _⟩) (v := ?_) rfl (by kernel_rfl) (by kernel_rfl) (by kernel_rfl) (fun _ _ _ h => h) (Or.inl ⟨by rfl, ?_⟩) (by assumption) ?_
  case refine_2 => (intro w hSw; skip; go_simp; (try rw [if_pos (by omega)]); first | done | with_reducible rfl)
  simp only [Act.put, qA, qB, qC]
  refine wpAnyH_take (i := 3) (oi := ⟨some 81, _, _, _, _, _⟩) (v := ?_) rfl (by kernel_rfl) (by kernel_rfl) (by kernel_rfl) (fun _ _ _ h => h) (Or.inl ⟨by rfl, ?_⟩) (by assumption) ?_
  case refine_2 => (intro w hSw; have p := (B.keep hSw).cell; have v00 := (hSw.cell (p := ⟨b, o, none⟩) hb).trans u00; have v01 := (hSw.cell (p := ⟨b, o + 1, none⟩) hb).trans u01; have v02 := (hSw.cell (p := ⟨b, o + 2, none⟩) hb).trans u02; have v03 := (hSw.cell (p := ⟨b, o + 3, none⟩) hb).trans u03; go_simp; first | done | with_reducible rfl)
  simp only [Act.put, qA, qB, qC]
  refine wpAnyH_take (i := 7) (oi := ⟨some 85, _, _, _, _, _⟩) (v := ?_) rfl (by kernel_rfl) (by kernel_rfl) (by kernel_rfl) (fun _ _ _ h => h) (Or.inl ⟨by rfl, ?_⟩) (by assumption) ?_
  case refine_2 => (intro w hSw; skip; go_simp; first | done | with_reducible rfl)
  simp only [Act.put, qA, qB, qC]
  refine wpAnyH_take (i := 8) (oi := ⟨some 86, _, _, _, _, _⟩) (v := ?_) rfl (by kernel_rfl) (by kernel_rfl) (by kernel_rfl) (fun _ _ _ h => h) (Or.inl ⟨by rfl, ?_⟩) (by assumption) ?_
  case refine_2 => (intro w hSw; have p := (B.keep hSw).cell; have v00 := (hSw.cell (p := ⟨b, o, none⟩) hb).trans u00; have v01 := (hSw.cell (p := ⟨b, o + 1, none⟩) hb).trans u01; have v02 := (hSw.cell (p := ⟨b, o + 2, none⟩) hb).trans u02; have v03 := (hSw.cell (p := ⟨b, o + 3, none⟩) hb).trans u03; go_simp; first | done | with_reducible rfl)
  simp only [Act.put, qA, qB, qC]
  refine wpAnyH_ready (rs := [4]) (by kernel_rfl) (by simp) ?_
  refine AllReadyH.cons (o := ⟨some 82, _, _, _, _, _⟩) rfl (fun K hK => ?_) AllReadyH.nil
  go_simp
  refine (CT0.out _ (hTW.keep hHeld) ((hS0.below hHeld (Nat.le_refl _)).more (Nat.le_refl _) hHeld.size)).mono ?_; rintro e y0 ⟨rfl, by0⟩
  go_wp2_with fail
  refine hK.out _ _ (bl_trans hHeld by0) (fun hHeld => ?_)
  clear hK K
  try simp only [Act.put, qA, qB, qC]
  refine wpAnyH_take (i := 5) (oi := ⟨some 83, _, _, _, _, _⟩) (v := ?_) rfl (by kernel_rfl) (by kernel_rfl) (by kernel_rfl) (fun _ _ _ h => h) (Or.inl ⟨by rfl, ?_⟩) (by assumption) ?_
  case refine_2 => (intro w hSw; skip; go_simp; (try rw [if_neg (by omega)]); first | done | with_reducible rfl)
  simp only [Act.put, qA, qB, qC]
  refine wpAnyH_take (i := 6) (oi := ⟨some 84, _, _, _, _, _⟩) (v := ?_) rfl (by kernel_rfl) (by kernel_rfl) (by kernel_rfl) (fun _ _ _ h => h) (Or.inl ⟨by rfl, ?_⟩) (by assumption) ?_
  case refine_2 => (intro w hSw; skip; go_simp; (try rw [if_neg (by omega)]); first | done | with_reducible rfl)
  simp only [Act.put, qA, qB, qC]
  refine wpAnyH_take (i := 9) (oi := ⟨some 87, _, _, _, _, _⟩) (v := ?_) rfl (by kernel_rfl) (by kernel_rfl) (by kernel_rfl) (fun _ _ _ h => h) (Or.inl ⟨by rfl, ?_⟩) (by assumption) ?_
  case refine_2 => (intro w hSw; skip; go_simp; (try rw [if_neg (by omega)]); first | done | with_reducible rfl)
  simp only [Act.put, qA, qB, qC]
  refine wpAnyH_take (i := 10) (oi := ⟨some 88, _, _, _, _, _⟩) (v := ?_) rfl (by kernel_rfl) (by kernel_rfl) (by kernel_rfl) (fun _ _ _ h => h) (Or.inl ⟨by rfl, ?_⟩) (by assumption) ?_
  case refine_2 => (intro w hSw; skip; go_simp; (try rw [if_neg (by omega)]); first | done | with_reducible rfl)
  simp only [Act.put, qA, qB, qC]
  refine wpAnyH_take (i := 11) (oi := ⟨some 2, _, _, _, _, _⟩) (v := ?_) rfl (by kernel_rfl) (by kernel_rfl) (by kernel_rfl) (fun _ _ _ h => h) (Or.inl ⟨by rfl, ?_⟩) (by assumption) ?_
  case refine_2 => (intro w hSw; skip; go_simp; first | done | with_reducible rfl)
  simp only [Act.put, qA, qB, qC]
  refine wpAnyH_done (by kernel_rfl) ?_ _
  go_wp2_with fail
  go_ret
  exact ⟨ret_str HE.out.symm, bl_trans L0 hHeld⟩

set_option maxRecDepth 20000 in
set_option maxHeartbeats 4000000 in
theorem sTextE_10 (K : Nat) (zs : ByteArray) (kids : Fr (Int × Int × ByteArray)) (A : Option Addr) (c : Nat) (w : World) (hK : kids.size ≤ K) (hl : kids.size ≤ 1048576) (hH : hereE (10, 0, zs) kids.len = true) (hok : okNA cntE.here kids = true) (hwz : zs.size + wt gExpr kids ≤ 1048576) (hT : Tab w) (hS : Sl exprC w 0 w.heap.size A kids) (ih : ∀ (kids : Fr (Int × Int × ByteArray)), kids.size < K → ∀ (zk zn : Int) (zs : ByteArray) (A : Option Addr) (c : Nat) (w : World), hereE (zk, zn, zs) kids.len = true → okNA cntE.here kids = true → zs.size + wt gExpr kids ≤ 1048576 → Tab w → Sl exprC w 0 w.heap.size A kids → Calls Tryz.prog 23 #[.agg #[.int .i64 zk, .int .i64 zn, .string zs, .slice A kids.len c]] w fun e w' => e = .returned (.string (txE (zk, zn, zs) (rowX kids))) ∧ Below w.heap.size w w') :
    Calls Tryz.prog 23 #[.agg #[.int .i64 10, .int .i64 0, .string zs, .slice A kids.len c]] w fun e w' => e = .returned (.string (txE (10, 0, zs) (rowX kids))) ∧ Below w.heap.size w w' := by
  have B := Blk.new w 29 #[.int .i64 10, .int .i64 0, .string zs, .slice A kids.len c]
  have L0 := bl_alloc (Below.refl w.heap.size w) (.cells #[.int .i64 10, .int .i64 0, .string zs, .slice A kids.len c] 29)
  have IHH := Lib.hid ih
  have _ := hT
  have _ := hK
  have _ := hl
  have _ := hok
  have _ := hwz
  have _ := hS
  have hkd := (kidsE_zero (by decide) hH).2
  have hlen : kids.len = 1 := by
    have := kindE_len hkd (by decide)
    simp at this
    omega
  clear hkd
  have hSW := (hS.below L0 (Nat.le_refl _)).more (Nat.le_refl _) L0.size
  have hTW := hT.keep L0
  obtain ⟨b, o, k0, n0, s0, x0, A0, c0, rfl, hb, hrow, ⟨hs0, hh0, ho0, hw0, hS0⟩, ⟨u00, u01, u02, u03⟩⟩ := one_E hSW hlen hok
  have cT0 := fun w' hT' hS' => ih x0 (by omega) k0 n0 s0 A0 c0 w' hh0 ho0 (by omega) hT' hS'
  have ht0 : (txE (k0, n0, s0) (rowX x0)).size ≤ 70000000 := txE_wt (by show s0.size + _ ≤ _; omega)
  have HE := Lib.hid (show txE (10, 0, zs) (rowX kids) = (((((⟨#[40]⟩ : ByteArray) ++ (txE (k0, n0, s0) (rowX x0))) ++ ⟨#[32, 126, 32, 47]⟩) ++ zs) ++ ⟨#[47, 41]⟩) from by rw [hrow]; exact congrArg (fun (J_ : ByteArray) => (((((⟨#[40]⟩ : ByteArray) ++ J_) ++ ⟨#[32, 126, 32, 47]⟩) ++ zs) ++ ⟨#[47, 41]⟩)) (jn_one (txE (k0, n0, s0) (rowX x0))))
  generalize txE (k0, n0, s0) (rowX x0) = t0 at cT0 ht0 HE
  have CT0 := Lib.hid cT0
  clear cT0 hh0 ho0
  have hl0 : (0 : Int) < (kids.len : Int) := by omega
  clear hrow ih hlen
  have z1 : ((⟨#[40]⟩ : ByteArray) ++ t0).size = 1 + t0.size := by rw [ByteArray.size_append]; rfl
  have z2 : (((⟨#[40]⟩ : ByteArray) ++ t0) ++ ⟨#[32, 126, 32, 47]⟩).size = 1 + t0.size + 4 := by rw [ByteArray.size_append, z1]; rfl
  have z3 : ((((⟨#[40]⟩ : ByteArray) ++ t0) ++ ⟨#[32, 126, 32, 47]⟩) ++ zs).size = 1 + t0.size + 4 + zs.size := by rw [ByteArray.size_append, z2]
  have z4 : (((((⟨#[40]⟩ : ByteArray) ++ t0) ++ ⟨#[32, 126, 32, 47]⟩) ++ zs) ++ ⟨#[47, 41]⟩).size = 1 + t0.size + 4 + zs.size + 2 := by rw [ByteArray.size_append, z3]; rfl
  go_enter Tryz.func23, Tryz.ntmps23
  go_wp2_with fail
  refine wp_region_held_drew (S := (fun y => Below (w.alloc (.cells #[.int .i64 10, .int .i64 0, .string zs, .slice (some ⟨b, o, none⟩) kids.len c] 29)).heap.size (w.alloc (.cells #[.int .i64 10, .int .i64 0, .string zs, .slice (some ⟨b, o, none⟩) kids.len c] 29)) y)) (by kernel_rfl) ?_ (fun hHeld => ?_)
  · exact (Below.refl _ _).drew
  refine wpAnyH_take (i := 0) (oi := ⟨some 91, _, _, _, _, _⟩) (v := ?_) rfl (by kernel_rfl) (by kernel_rfl) (by kernel_rfl) (fun _ _ _ h => h) (Or.inl ⟨by rfl, ?_⟩) (by assumption) ?_
  case refine_2 => (intro w hSw; skip; go_simp; first | done | with_reducible rfl)
  simp only [Act.put, qA, qB, qC]
  refine wpAnyH_take (i := 1) (oi := ⟨some 92, _, _, _, _, _⟩) (v := ?_) rfl (by kernel_rfl) (by kernel_rfl) (by kernel_rfl) (fun _ _ _ h => h) (Or.inl ⟨by rfl, ?_⟩) (by assumption) ?_
  case refine_2 => (intro w hSw; have p := (B.keep hSw).cell; have v00 := (hSw.cell (p := ⟨b, o, none⟩) hb).trans u00; have v01 := (hSw.cell (p := ⟨b, o + 1, none⟩) hb).trans u01; have v02 := (hSw.cell (p := ⟨b, o + 2, none⟩) hb).trans u02; have v03 := (hSw.cell (p := ⟨b, o + 3, none⟩) hb).trans u03; go_simp; first | done | with_reducible rfl)
  simp only [Act.put, qA, qB, qC]
  refine wpAnyH_take (i := 2) (oi := ⟨some 93, _, _, _, _, _⟩) (v := ?_) rfl (by kernel_rfl) (by kernel_rfl) (by kernel_rfl) (fun _ _ _ h => h) (Or.inl ⟨by rfl, ?_⟩) (by assumption) ?_
  case refine_2 => (intro w hSw; skip; go_simp; (try rw [if_pos (by omega)]); first | done | with_reducible rfl)
  simp only [Act.put, qA, qB, qC]
  refine wpAnyH_take (i := 3) (oi := ⟨some 94, _, _, _, _, _⟩) (v := ?_) rfl (by kernel_rfl) (by kernel_rfl) (by kernel_rfl) (fun _ _ _ h => h) (Or.inl ⟨by rfl, ?_⟩) (by assumption) ?_
  case refine_2 => (intro w hSw; have p := (B.keep hSw).cell; have v00 := (hSw.cell (p := ⟨b, o, none⟩) hb).trans u00; have v01 := (hSw.cell (p := ⟨b, o + 1, none⟩) hb).trans u01; have v02 := (hSw.cell (p := ⟨b, o + 2, none⟩) hb).trans u02; have v03 := (hSw.cell (p := ⟨b, o + 3, none⟩) hb).trans u03; go_simp; first | done | with_reducible rfl)
  simp only [Act.put, qA, qB, qC]
  refine wpAnyH_take (i := 7) (oi := ⟨some 98, _, _, _, _, _⟩) (v := ?_) rfl (by kernel_rfl) (by kernel_rfl) (by kernel_rfl) (fun _ _ _ h => h) (Or.inl ⟨by rfl, ?_⟩) (by assumption) ?_
  case refine_2 => (intro w hSw; skip; go_simp; first | done | with_reducible rfl)
  simp only [Act.put, qA, qB, qC]
  refine wpAnyH_take (i := 8) (oi := ⟨some 99, _, _, _, _, _⟩) (v := ?_) rfl (by kernel_rfl) (by kernel_rfl) (by kernel_rfl) (fun _ _ _ h => h) (Or.inl ⟨by rfl, ?_⟩) (by assumption) ?_
  case refine_2 => (intro w hSw; have p := (B.keep hSw).cell; have v00 := (hSw.cell (p := ⟨b, o, none⟩) hb).trans u00; have v01 := (hSw.cell (p := ⟨b, o + 1, none⟩) hb).trans u01; have v02 := (hSw.cell (p := ⟨b, o + 2, none⟩) hb).trans u02; have v03 := (hSw.cell (p := ⟨b, o + 3, none⟩) hb).trans u03; go_simp; first | done | with_reducible rfl)
  simp only [Act.put, qA, qB, qC]
  refine wpAnyH_ready (rs := [4]) (by kernel_rfl) (by simp) ?_
  refine AllReadyH.cons (o := ⟨some 95, _, _, _, _, _⟩) rfl (fun K hK => ?_) AllReadyH.nil
  go_simp
  refine (CT0.out _ (hTW.keep hHeld) ((hS0.below hHeld (Nat.le_refl _)).more (Nat.le_refl _) hHeld.size)).mono ?_; rintro e y0 ⟨rfl, by0⟩
  go_wp2_with fail
  refine hK.out _ _ (bl_trans hHeld by0) (fun hHeld => ?_)
  clear hK K
  try simp only [Act.put, qA, qB, qC]
  refine wpAnyH_take (i := 5) (oi := ⟨some 96, _, _, _, _, _⟩) (v := ?_) rfl (by kernel_rfl) (by kernel_rfl) (by kernel_rfl) (fun _ _ _ h => h) (Or.inl ⟨by rfl, ?_⟩) (by assumption) ?_
  case refine_2 => (intro w hSw; skip; go_simp; (try rw [if_neg (by omega)]); first | done | with_reducible rfl)
  simp only [Act.put, qA, qB, qC]
  refine wpAnyH_take (i := 6) (oi := ⟨some 97, _, _, _, _, _⟩) (v := ?_) rfl (by kernel_rfl) (by kernel_rfl) (by kernel_rfl) (fun _ _ _ h => h) (Or.inl ⟨by rfl, ?_⟩) (by assumption) ?_
  case refine_2 => (intro w hSw; skip; go_simp; (try rw [if_neg (by omega)]); first | done | with_reducible rfl)
  simp only [Act.put, qA, qB, qC]
  refine wpAnyH_take (i := 9) (oi := ⟨some 100, _, _, _, _, _⟩) (v := ?_) rfl (by kernel_rfl) (by kernel_rfl) (by kernel_rfl) (fun _ _ _ h => h) (Or.inl ⟨by rfl, ?_⟩) (by assumption) ?_
  case refine_2 => (intro w hSw; skip; go_simp; (try rw [if_neg (by omega)]); first | done | with_reducible rfl)
  simp only [Act.put, qA, qB, qC]
  refine wpAnyH_take (i := 10) (oi := ⟨some 101, _, _, _, _, _⟩) (v := ?_) rfl (by kernel_rfl) (by kernel_rfl) (by kernel_rfl) (fun _ _ _ h => h) (Or.inl ⟨by rfl, ?_⟩) (by assumption) ?_
  case refine_2 => (intro w hSw; skip; go_simp; (try rw [if_neg (by omega)]); first | done | with_reducible rfl)
  simp only [Act.put, qA, qB, qC]
  refine wpAnyH_take (i := 11) (oi := ⟨some 2, _, _, _, _, _⟩) (v := ?_) rfl (by kernel_rfl) (by kernel_rfl) (by kernel_rfl) (fun _ _ _ h => h) (Or.inl ⟨by rfl, ?_⟩) (by assumption) ?_
  case refine_2 => (intro w hSw; skip; go_simp; first | done | with_reducible rfl)
  simp only [Act.put, qA, qB, qC]
  refine wpAnyH_done (by kernel_rfl) ?_ _
  go_wp2_with fail
  go_ret
  exact ⟨ret_str HE.out.symm, bl_trans L0 hHeld⟩

set_option maxRecDepth 20000 in
set_option maxHeartbeats 4000000 in
theorem sTextE_11 (K : Nat) (zs : ByteArray) (kids : Fr (Int × Int × ByteArray)) (A : Option Addr) (c : Nat) (w : World) (hK : kids.size ≤ K) (hl : kids.size ≤ 1048576) (hH : hereE (11, 0, zs) kids.len = true) (hok : okNA cntE.here kids = true) (hwz : zs.size + wt gExpr kids ≤ 1048576) (hT : Tab w) (hS : Sl exprC w 0 w.heap.size A kids) (ih : ∀ (kids : Fr (Int × Int × ByteArray)), kids.size < K → ∀ (zk zn : Int) (zs : ByteArray) (A : Option Addr) (c : Nat) (w : World), hereE (zk, zn, zs) kids.len = true → okNA cntE.here kids = true → zs.size + wt gExpr kids ≤ 1048576 → Tab w → Sl exprC w 0 w.heap.size A kids → Calls Tryz.prog 23 #[.agg #[.int .i64 zk, .int .i64 zn, .string zs, .slice A kids.len c]] w fun e w' => e = .returned (.string (txE (zk, zn, zs) (rowX kids))) ∧ Below w.heap.size w w') :
    Calls Tryz.prog 23 #[.agg #[.int .i64 11, .int .i64 0, .string zs, .slice A kids.len c]] w fun e w' => e = .returned (.string (txE (11, 0, zs) (rowX kids))) ∧ Below w.heap.size w w' := by
  have B := Blk.new w 29 #[.int .i64 11, .int .i64 0, .string zs, .slice A kids.len c]
  have L0 := bl_alloc (Below.refl w.heap.size w) (.cells #[.int .i64 11, .int .i64 0, .string zs, .slice A kids.len c] 29)
  have IHH := Lib.hid ih
  have _ := hT
  have _ := hK
  have _ := hl
  have _ := hok
  have _ := hwz
  have _ := hS
  have hkd := (kidsE_zero (by decide) hH).2
  clear hkd
  have hSW := (hS.below L0 (Nat.le_refl _)).more (Nat.le_refl _) L0.size
  have hTW := hT.keep L0
  have cJ := fun A' c' w' hT' hS' => sListX K zs (by omega) kids A' c' w' hK hl hok (by omega) hT' hS' ih
  have HE := Lib.hid (show txE (11, 0, zs) (rowX kids) = ((zs ++ ⟨#[40]⟩) ++ jnS [44, 32] (rowX kids) kids.len) ++ ⟨#[41]⟩ from by rw [← rowX_len kids]; rfl)
  generalize ((zs ++ (⟨#[40]⟩ : ByteArray)) ++ jnS [44, 32] (rowX kids) kids.len) ++ ⟨#[41]⟩ = J at cJ HE
  have CJ := Lib.hid cJ
  clear cJ ih
  go_enter Tryz.func23, Tryz.ntmps23
  go_wp2_with fail
  refine (CJ.out A c _ hTW hSW).mono ?_; rintro e y0 ⟨rfl, by0⟩
  go_wp2_with fail
  go_ret
  exact ⟨ret_str HE.out.symm, bl_trans L0 by0⟩

set_option maxRecDepth 20000 in
set_option maxHeartbeats 4000000 in
theorem sTextE_12 (K : Nat) (zs : ByteArray) (kids : Fr (Int × Int × ByteArray)) (A : Option Addr) (c : Nat) (w : World) (hK : kids.size ≤ K) (hl : kids.size ≤ 1048576) (hH : hereE (12, 0, zs) kids.len = true) (hok : okNA cntE.here kids = true) (hwz : zs.size + wt gExpr kids ≤ 1048576) (hT : Tab w) (hS : Sl exprC w 0 w.heap.size A kids) (ih : ∀ (kids : Fr (Int × Int × ByteArray)), kids.size < K → ∀ (zk zn : Int) (zs : ByteArray) (A : Option Addr) (c : Nat) (w : World), hereE (zk, zn, zs) kids.len = true → okNA cntE.here kids = true → zs.size + wt gExpr kids ≤ 1048576 → Tab w → Sl exprC w 0 w.heap.size A kids → Calls Tryz.prog 23 #[.agg #[.int .i64 zk, .int .i64 zn, .string zs, .slice A kids.len c]] w fun e w' => e = .returned (.string (txE (zk, zn, zs) (rowX kids))) ∧ Below w.heap.size w w') :
    Calls Tryz.prog 23 #[.agg #[.int .i64 12, .int .i64 0, .string zs, .slice A kids.len c]] w fun e w' => e = .returned (.string (txE (12, 0, zs) (rowX kids))) ∧ Below w.heap.size w w' := by
  have B := Blk.new w 29 #[.int .i64 12, .int .i64 0, .string zs, .slice A kids.len c]
  have L0 := bl_alloc (Below.refl w.heap.size w) (.cells #[.int .i64 12, .int .i64 0, .string zs, .slice A kids.len c] 29)
  have IHH := Lib.hid ih
  have _ := hT
  have _ := hK
  have _ := hl
  have _ := hok
  have _ := hwz
  have _ := hS
  have hkd := (kidsE_zero (by decide) hH).2
  have hlen : kids.len = 1 := by
    have := kindE_len hkd (by decide)
    simp at this
    omega
  clear hkd
  have hSW := (hS.below L0 (Nat.le_refl _)).more (Nat.le_refl _) L0.size
  have hTW := hT.keep L0
  have cJ := fun A' c' w' hT' hS' => sListX K ⟨#[108, 101, 110, 103, 116, 104]⟩ (by decide) kids A' c' w' hK hl hok (by omega) hT' hS' ih
  have HE := Lib.hid (show txE (12, 0, zs) (rowX kids) = ((⟨#[108, 101, 110, 103, 116, 104]⟩ ++ ⟨#[40]⟩) ++ jnS [44, 32] (rowX kids) kids.len) ++ ⟨#[41]⟩ from by rw [← rowX_len kids]; rfl)
  generalize ((⟨#[108, 101, 110, 103, 116, 104]⟩ ++ (⟨#[40]⟩ : ByteArray)) ++ jnS [44, 32] (rowX kids) kids.len) ++ ⟨#[41]⟩ = J at cJ HE
  have CJ := Lib.hid cJ
  clear cJ ih
  clear hlen
  go_enter Tryz.func23, Tryz.ntmps23
  go_wp2_with fail
  refine (CJ.out A c _ hTW hSW).mono ?_; rintro e y0 ⟨rfl, by0⟩
  go_wp2_with fail
  go_ret
  exact ⟨ret_str HE.out.symm, bl_trans L0 by0⟩

set_option maxRecDepth 20000 in
set_option maxHeartbeats 4000000 in
theorem sTextE_13 (K : Nat) (zs : ByteArray) (kids : Fr (Int × Int × ByteArray)) (A : Option Addr) (c : Nat) (w : World) (hK : kids.size ≤ K) (hl : kids.size ≤ 1048576) (hH : hereE (13, 0, zs) kids.len = true) (hok : okNA cntE.here kids = true) (hwz : zs.size + wt gExpr kids ≤ 1048576) (hT : Tab w) (hS : Sl exprC w 0 w.heap.size A kids) (ih : ∀ (kids : Fr (Int × Int × ByteArray)), kids.size < K → ∀ (zk zn : Int) (zs : ByteArray) (A : Option Addr) (c : Nat) (w : World), hereE (zk, zn, zs) kids.len = true → okNA cntE.here kids = true → zs.size + wt gExpr kids ≤ 1048576 → Tab w → Sl exprC w 0 w.heap.size A kids → Calls Tryz.prog 23 #[.agg #[.int .i64 zk, .int .i64 zn, .string zs, .slice A kids.len c]] w fun e w' => e = .returned (.string (txE (zk, zn, zs) (rowX kids))) ∧ Below w.heap.size w w') :
    Calls Tryz.prog 23 #[.agg #[.int .i64 13, .int .i64 0, .string zs, .slice A kids.len c]] w fun e w' => e = .returned (.string (txE (13, 0, zs) (rowX kids))) ∧ Below w.heap.size w w' := by
  have B := Blk.new w 29 #[.int .i64 13, .int .i64 0, .string zs, .slice A kids.len c]
  have L0 := bl_alloc (Below.refl w.heap.size w) (.cells #[.int .i64 13, .int .i64 0, .string zs, .slice A kids.len c] 29)
  have IHH := Lib.hid ih
  have _ := hT
  have _ := hK
  have _ := hl
  have _ := hok
  have _ := hwz
  have _ := hS
  have hkd := (kidsE_zero (by decide) hH).2
  have hlen : kids.len = 3 := by
    have := kindE_len hkd (by decide)
    simp at this
    omega
  clear hkd
  have hSW := (hS.below L0 (Nat.le_refl _)).more (Nat.le_refl _) L0.size
  have hTW := hT.keep L0
  have cJ := fun A' c' w' hT' hS' => sListX K ⟨#[115, 117, 98, 115, 116, 114]⟩ (by decide) kids A' c' w' hK hl hok (by omega) hT' hS' ih
  have HE := Lib.hid (show txE (13, 0, zs) (rowX kids) = ((⟨#[115, 117, 98, 115, 116, 114]⟩ ++ ⟨#[40]⟩) ++ jnS [44, 32] (rowX kids) kids.len) ++ ⟨#[41]⟩ from by rw [← rowX_len kids]; rfl)
  generalize ((⟨#[115, 117, 98, 115, 116, 114]⟩ ++ (⟨#[40]⟩ : ByteArray)) ++ jnS [44, 32] (rowX kids) kids.len) ++ ⟨#[41]⟩ = J at cJ HE
  have CJ := Lib.hid cJ
  clear cJ ih
  clear hlen
  go_enter Tryz.func23, Tryz.ntmps23
  go_wp2_with fail
  refine (CJ.out A c _ hTW hSW).mono ?_; rintro e y0 ⟨rfl, by0⟩
  go_wp2_with fail
  go_ret
  exact ⟨ret_str HE.out.symm, bl_trans L0 by0⟩

set_option maxRecDepth 20000 in
set_option maxHeartbeats 4000000 in
theorem sTextE_14 (K : Nat) (zs : ByteArray) (kids : Fr (Int × Int × ByteArray)) (A : Option Addr) (c : Nat) (w : World) (hK : kids.size ≤ K) (hl : kids.size ≤ 1048576) (hH : hereE (14, 0, zs) kids.len = true) (hok : okNA cntE.here kids = true) (hwz : zs.size + wt gExpr kids ≤ 1048576) (hT : Tab w) (hS : Sl exprC w 0 w.heap.size A kids) (ih : ∀ (kids : Fr (Int × Int × ByteArray)), kids.size < K → ∀ (zk zn : Int) (zs : ByteArray) (A : Option Addr) (c : Nat) (w : World), hereE (zk, zn, zs) kids.len = true → okNA cntE.here kids = true → zs.size + wt gExpr kids ≤ 1048576 → Tab w → Sl exprC w 0 w.heap.size A kids → Calls Tryz.prog 23 #[.agg #[.int .i64 zk, .int .i64 zn, .string zs, .slice A kids.len c]] w fun e w' => e = .returned (.string (txE (zk, zn, zs) (rowX kids))) ∧ Below w.heap.size w w') :
    Calls Tryz.prog 23 #[.agg #[.int .i64 14, .int .i64 0, .string zs, .slice A kids.len c]] w fun e w' => e = .returned (.string (txE (14, 0, zs) (rowX kids))) ∧ Below w.heap.size w w' := by
  have B := Blk.new w 29 #[.int .i64 14, .int .i64 0, .string zs, .slice A kids.len c]
  have L0 := bl_alloc (Below.refl w.heap.size w) (.cells #[.int .i64 14, .int .i64 0, .string zs, .slice A kids.len c] 29)
  have IHH := Lib.hid ih
  have _ := hT
  have _ := hK
  have _ := hl
  have _ := hok
  have _ := hwz
  have _ := hS
  have _ := hH
  clear ih
  go_enter Tryz.func23, Tryz.ntmps23
  go_wp2_with fail
  go_ret
  exact ⟨rfl, L0⟩

set_option maxRecDepth 20000 in
set_option maxHeartbeats 4000000 in
theorem sTextE_15 (K : Nat) (zs : ByteArray) (kids : Fr (Int × Int × ByteArray)) (A : Option Addr) (c : Nat) (w : World) (hK : kids.size ≤ K) (hl : kids.size ≤ 1048576) (hH : hereE (15, 0, zs) kids.len = true) (hok : okNA cntE.here kids = true) (hwz : zs.size + wt gExpr kids ≤ 1048576) (hT : Tab w) (hS : Sl exprC w 0 w.heap.size A kids) (ih : ∀ (kids : Fr (Int × Int × ByteArray)), kids.size < K → ∀ (zk zn : Int) (zs : ByteArray) (A : Option Addr) (c : Nat) (w : World), hereE (zk, zn, zs) kids.len = true → okNA cntE.here kids = true → zs.size + wt gExpr kids ≤ 1048576 → Tab w → Sl exprC w 0 w.heap.size A kids → Calls Tryz.prog 23 #[.agg #[.int .i64 zk, .int .i64 zn, .string zs, .slice A kids.len c]] w fun e w' => e = .returned (.string (txE (zk, zn, zs) (rowX kids))) ∧ Below w.heap.size w w') :
    Calls Tryz.prog 23 #[.agg #[.int .i64 15, .int .i64 0, .string zs, .slice A kids.len c]] w fun e w' => e = .returned (.string (txE (15, 0, zs) (rowX kids))) ∧ Below w.heap.size w w' := by
  have B := Blk.new w 29 #[.int .i64 15, .int .i64 0, .string zs, .slice A kids.len c]
  have L0 := bl_alloc (Below.refl w.heap.size w) (.cells #[.int .i64 15, .int .i64 0, .string zs, .slice A kids.len c] 29)
  have IHH := Lib.hid ih
  have _ := hT
  have _ := hK
  have _ := hl
  have _ := hok
  have _ := hwz
  have _ := hS
  have _ := hH
  clear ih
  go_enter Tryz.func23, Tryz.ntmps23
  go_wp2_with fail
  go_ret
  exact ⟨rfl, L0⟩

set_option maxRecDepth 20000 in
set_option maxHeartbeats 4000000 in
theorem sTextE_16 (K : Nat) (zs : ByteArray) (kids : Fr (Int × Int × ByteArray)) (A : Option Addr) (c : Nat) (w : World) (hK : kids.size ≤ K) (hl : kids.size ≤ 1048576) (hH : hereE (16, 0, zs) kids.len = true) (hok : okNA cntE.here kids = true) (hwz : zs.size + wt gExpr kids ≤ 1048576) (hT : Tab w) (hS : Sl exprC w 0 w.heap.size A kids) (ih : ∀ (kids : Fr (Int × Int × ByteArray)), kids.size < K → ∀ (zk zn : Int) (zs : ByteArray) (A : Option Addr) (c : Nat) (w : World), hereE (zk, zn, zs) kids.len = true → okNA cntE.here kids = true → zs.size + wt gExpr kids ≤ 1048576 → Tab w → Sl exprC w 0 w.heap.size A kids → Calls Tryz.prog 23 #[.agg #[.int .i64 zk, .int .i64 zn, .string zs, .slice A kids.len c]] w fun e w' => e = .returned (.string (txE (zk, zn, zs) (rowX kids))) ∧ Below w.heap.size w w') :
    Calls Tryz.prog 23 #[.agg #[.int .i64 16, .int .i64 0, .string zs, .slice A kids.len c]] w fun e w' => e = .returned (.string (txE (16, 0, zs) (rowX kids))) ∧ Below w.heap.size w w' := by
  have B := Blk.new w 29 #[.int .i64 16, .int .i64 0, .string zs, .slice A kids.len c]
  have L0 := bl_alloc (Below.refl w.heap.size w) (.cells #[.int .i64 16, .int .i64 0, .string zs, .slice A kids.len c] 29)
  have IHH := Lib.hid ih
  have _ := hT
  have _ := hK
  have _ := hl
  have _ := hok
  have _ := hwz
  have _ := hS
  have hkd := (kidsE_zero (by decide) hH).2
  have hlen : kids.len = 2 := by
    have := kindE_len hkd (by decide)
    simp at this
    omega
  clear hkd
  have hSW := (hS.below L0 (Nat.le_refl _)).more (Nat.le_refl _) L0.size
  have hTW := hT.keep L0
  have cJ := fun A' c' w' hT' hS' => sListX K ⟨#[105, 110, 100, 101, 120]⟩ (by decide) kids A' c' w' hK hl hok (by omega) hT' hS' ih
  have HE := Lib.hid (show txE (16, 0, zs) (rowX kids) = ((⟨#[105, 110, 100, 101, 120]⟩ ++ ⟨#[40]⟩) ++ jnS [44, 32] (rowX kids) kids.len) ++ ⟨#[41]⟩ from by rw [← rowX_len kids]; rfl)
  generalize ((⟨#[105, 110, 100, 101, 120]⟩ ++ (⟨#[40]⟩ : ByteArray)) ++ jnS [44, 32] (rowX kids) kids.len) ++ ⟨#[41]⟩ = J at cJ HE
  have CJ := Lib.hid cJ
  clear cJ ih
  clear hlen
  go_enter Tryz.func23, Tryz.ntmps23
  go_wp2_with fail
  refine (CJ.out A c _ hTW hSW).mono ?_; rintro e y0 ⟨rfl, by0⟩
  go_wp2_with fail
  go_ret
  exact ⟨ret_str HE.out.symm, bl_trans L0 by0⟩

set_option maxRecDepth 20000 in
set_option maxHeartbeats 4000000 in
theorem sTextE_17 (K : Nat) (zs : ByteArray) (kids : Fr (Int × Int × ByteArray)) (A : Option Addr) (c : Nat) (w : World) (hK : kids.size ≤ K) (hl : kids.size ≤ 1048576) (hH : hereE (17, 0, zs) kids.len = true) (hok : okNA cntE.here kids = true) (hwz : zs.size + wt gExpr kids ≤ 1048576) (hT : Tab w) (hS : Sl exprC w 0 w.heap.size A kids) (ih : ∀ (kids : Fr (Int × Int × ByteArray)), kids.size < K → ∀ (zk zn : Int) (zs : ByteArray) (A : Option Addr) (c : Nat) (w : World), hereE (zk, zn, zs) kids.len = true → okNA cntE.here kids = true → zs.size + wt gExpr kids ≤ 1048576 → Tab w → Sl exprC w 0 w.heap.size A kids → Calls Tryz.prog 23 #[.agg #[.int .i64 zk, .int .i64 zn, .string zs, .slice A kids.len c]] w fun e w' => e = .returned (.string (txE (zk, zn, zs) (rowX kids))) ∧ Below w.heap.size w w') :
    Calls Tryz.prog 23 #[.agg #[.int .i64 17, .int .i64 0, .string zs, .slice A kids.len c]] w fun e w' => e = .returned (.string (txE (17, 0, zs) (rowX kids))) ∧ Below w.heap.size w w' := by
  have B := Blk.new w 29 #[.int .i64 17, .int .i64 0, .string zs, .slice A kids.len c]
  have L0 := bl_alloc (Below.refl w.heap.size w) (.cells #[.int .i64 17, .int .i64 0, .string zs, .slice A kids.len c] 29)
  have IHH := Lib.hid ih
  have _ := hT
  have _ := hK
  have _ := hl
  have _ := hok
  have _ := hwz
  have _ := hS
  have hkd := (kidsE_zero (by decide) hH).2
  have hlen : kids.len = 1 := by
    have := kindE_len hkd (by decide)
    simp at this
    omega
  clear hkd
  have hSW := (hS.below L0 (Nat.le_refl _)).more (Nat.le_refl _) L0.size
  have hTW := hT.keep L0
  have cJ := fun A' c' w' hT' hS' => sListX K ⟨#[117, 112, 112, 101, 114]⟩ (by decide) kids A' c' w' hK hl hok (by omega) hT' hS' ih
  have HE := Lib.hid (show txE (17, 0, zs) (rowX kids) = ((⟨#[117, 112, 112, 101, 114]⟩ ++ ⟨#[40]⟩) ++ jnS [44, 32] (rowX kids) kids.len) ++ ⟨#[41]⟩ from by rw [← rowX_len kids]; rfl)
  generalize ((⟨#[117, 112, 112, 101, 114]⟩ ++ (⟨#[40]⟩ : ByteArray)) ++ jnS [44, 32] (rowX kids) kids.len) ++ ⟨#[41]⟩ = J at cJ HE
  have CJ := Lib.hid cJ
  clear cJ ih
  clear hlen
  go_enter Tryz.func23, Tryz.ntmps23
  go_wp2_with fail
  refine (CJ.out A c _ hTW hSW).mono ?_; rintro e y0 ⟨rfl, by0⟩
  go_wp2_with fail
  go_ret
  exact ⟨ret_str HE.out.symm, bl_trans L0 by0⟩

set_option maxRecDepth 20000 in
set_option maxHeartbeats 4000000 in
theorem sTextE_18 (K : Nat) (zs : ByteArray) (kids : Fr (Int × Int × ByteArray)) (A : Option Addr) (c : Nat) (w : World) (hK : kids.size ≤ K) (hl : kids.size ≤ 1048576) (hH : hereE (18, 0, zs) kids.len = true) (hok : okNA cntE.here kids = true) (hwz : zs.size + wt gExpr kids ≤ 1048576) (hT : Tab w) (hS : Sl exprC w 0 w.heap.size A kids) (ih : ∀ (kids : Fr (Int × Int × ByteArray)), kids.size < K → ∀ (zk zn : Int) (zs : ByteArray) (A : Option Addr) (c : Nat) (w : World), hereE (zk, zn, zs) kids.len = true → okNA cntE.here kids = true → zs.size + wt gExpr kids ≤ 1048576 → Tab w → Sl exprC w 0 w.heap.size A kids → Calls Tryz.prog 23 #[.agg #[.int .i64 zk, .int .i64 zn, .string zs, .slice A kids.len c]] w fun e w' => e = .returned (.string (txE (zk, zn, zs) (rowX kids))) ∧ Below w.heap.size w w') :
    Calls Tryz.prog 23 #[.agg #[.int .i64 18, .int .i64 0, .string zs, .slice A kids.len c]] w fun e w' => e = .returned (.string (txE (18, 0, zs) (rowX kids))) ∧ Below w.heap.size w w' := by
  have B := Blk.new w 29 #[.int .i64 18, .int .i64 0, .string zs, .slice A kids.len c]
  have L0 := bl_alloc (Below.refl w.heap.size w) (.cells #[.int .i64 18, .int .i64 0, .string zs, .slice A kids.len c] 29)
  have IHH := Lib.hid ih
  have _ := hT
  have _ := hK
  have _ := hl
  have _ := hok
  have _ := hwz
  have _ := hS
  have hkd := (kidsE_zero (by decide) hH).2
  have hlen : kids.len = 2 := by
    have := kindE_len hkd (by decide)
    simp at this
    omega
  clear hkd
  have hSW := (hS.below L0 (Nat.le_refl _)).more (Nat.le_refl _) L0.size
  have hTW := hT.keep L0
  obtain ⟨b, o, k0, n0, s0, x0, A0, c0, k1, n1, s1, x1, A1, c1, rfl, hb, hrow, ⟨hs0, hh0, ho0, hw0, hS0⟩, ⟨hs1, hh1, ho1, hw1, hS1⟩, ⟨u00, u01, u02, u03⟩, ⟨u10, u11, u12, u13⟩⟩ := two_E hSW hlen hok
  have cT0 := fun w' hT' hS' => ih x0 (by omega) k0 n0 s0 A0 c0 w' hh0 ho0 (by omega) hT' hS'
  have ht0 : (txE (k0, n0, s0) (rowX x0)).size ≤ 70000000 := txE_wt (by show s0.size + _ ≤ _; omega)
  have cT1 := fun w' hT' hS' => ih x1 (by omega) k1 n1 s1 A1 c1 w' hh1 ho1 (by omega) hT' hS'
  have ht1 : (txE (k1, n1, s1) (rowX x1)).size ≤ 70000000 := txE_wt (by show s1.size + _ ≤ _; omega)
  have HE := Lib.hid (show txE (18, 0, zs) (rowX kids) = (((((((⟨#[103, 115, 117, 98, 40]⟩ : ByteArray) ++ (txE (k0, n0, s0) (rowX x0))) ++ ⟨#[32, 126, 32, 47]⟩) ++ zs) ++ ⟨#[47, 44, 32]⟩) ++ (txE (k1, n1, s1) (rowX x1))) ++ ⟨#[41]⟩) from by rw [hrow]; rfl)
  generalize txE (k0, n0, s0) (rowX x0) = t0 at cT0 ht0 HE
  have CT0 := Lib.hid cT0
  clear cT0 hh0 ho0
  generalize txE (k1, n1, s1) (rowX x1) = t1 at cT1 ht1 HE
  have CT1 := Lib.hid cT1
  clear cT1 hh1 ho1
  have hl0 : (0 : Int) < (kids.len : Int) := by omega
  have hl1 : (1 : Int) < (kids.len : Int) := by omega
  clear hrow ih hlen
  have z1 : ((⟨#[103, 115, 117, 98, 40]⟩ : ByteArray) ++ t0).size = 5 + t0.size := by rw [ByteArray.size_append]; rfl
  have z2 : (((⟨#[103, 115, 117, 98, 40]⟩ : ByteArray) ++ t0) ++ ⟨#[32, 126, 32, 47]⟩).size = 5 + t0.size + 4 := by rw [ByteArray.size_append, z1]; rfl
  have z3 : ((((⟨#[103, 115, 117, 98, 40]⟩ : ByteArray) ++ t0) ++ ⟨#[32, 126, 32, 47]⟩) ++ zs).size = 5 + t0.size + 4 + zs.size := by rw [ByteArray.size_append, z2]
  have z4 : (((((⟨#[103, 115, 117, 98, 40]⟩ : ByteArray) ++ t0) ++ ⟨#[32, 126, 32, 47]⟩) ++ zs) ++ ⟨#[47, 44, 32]⟩).size = 5 + t0.size + 4 + zs.size + 3 := by rw [ByteArray.size_append, z3]; rfl
  have z5 : ((((((⟨#[103, 115, 117, 98, 40]⟩ : ByteArray) ++ t0) ++ ⟨#[32, 126, 32, 47]⟩) ++ zs) ++ ⟨#[47, 44, 32]⟩) ++ t1).size = 5 + t0.size + 4 + zs.size + 3 + t1.size := by rw [ByteArray.size_append, z4]
  have z6 : (((((((⟨#[103, 115, 117, 98, 40]⟩ : ByteArray) ++ t0) ++ ⟨#[32, 126, 32, 47]⟩) ++ zs) ++ ⟨#[47, 44, 32]⟩) ++ t1) ++ ⟨#[41]⟩).size = 5 + t0.size + 4 + zs.size + 3 + t1.size + 1 := by rw [ByteArray.size_append, z5]; rfl
  go_enter Tryz.func23, Tryz.ntmps23
  go_wp2_with fail
  refine wp_region_held_drew (S := (fun y => Below (w.alloc (.cells #[.int .i64 18, .int .i64 0, .string zs, .slice (some ⟨b, o, none⟩) kids.len c] 29)).heap.size (w.alloc (.cells #[.int .i64 18, .int .i64 0, .string zs, .slice (some ⟨b, o, none⟩) kids.len c] 29)) y)) (by kernel_rfl) ?_ (fun hHeld => ?_)
  · exact (Below.refl _ _).drew
  refine wpAnyH_take (i := 0) (oi := ⟨some 104, _, _, _, _, _⟩) (v := ?_) rfl (by kernel_rfl) (by kernel_rfl) (by kernel_rfl) (fun _ _ _ h => h) (Or.inl ⟨by rfl, ?_⟩) (by assumption) ?_
  case refine_2 => (intro w hSw; skip; go_simp; first | done | with_reducible rfl)
  simp only [Act.put, qA, qB, qC]
  refine wpAnyH_take (i := 1) (oi := ⟨some 105, _, _, _, _, _⟩) (v := ?_) rfl (by kernel_rfl) (by kernel_rfl) (by kernel_rfl) (fun _ _ _ h => h) (Or.inl ⟨by rfl, ?_⟩) (by assumption) ?_
  case refine_2 => (intro w hSw; have p := (B.keep hSw).cell; have v00 := (hSw.cell (p := ⟨b, o, none⟩) hb).trans u00; have v01 := (hSw.cell (p := ⟨b, o + 1, none⟩) hb).trans u01; have v02 := (hSw.cell (p := ⟨b, o + 2, none⟩) hb).trans u02; have v03 := (hSw.cell (p := ⟨b, o + 3, none⟩) hb).trans u03; have v10 := (hSw.cell (p := ⟨b, o + 4, none⟩) hb).trans u10; have v11 := (hSw.cell (p := ⟨b, o + 4 + 1, none⟩) hb).trans u11; have v12 := (hSw.cell (p := ⟨b, o + 4 + 2, none⟩) hb).trans u12; have v13 := (hSw.cell (p := ⟨b, o + 4 + 3, none⟩) hb).trans u13; go_simp; first | done | with_reducible rfl)
  simp only [Act.put, qA, qB, qC]
  refine wpAnyH_take (i := 2) (oi := ⟨some 106, _, _, _, _, _⟩) (v := ?_) rfl (by kernel_rfl) (by kernel_rfl) (by kernel_rfl) (fun _ _ _ h => h) (Or.inl ⟨by rfl, ?_⟩) (by assumption) ?_
  case refine_2 => (intro w hSw; skip; go_simp; (try rw [if_pos (by omega)]); first | done | with_reducible rfl)
  simp only [Act.put, qA, qB, qC]
  refine wpAnyH_take (i := 3) (oi := ⟨some 107, _, _, _, _, _⟩) (v := ?_) rfl (by kernel_rfl) (by kernel_rfl) (by kernel_rfl) (fun _ _ _ h => h) (Or.inl ⟨by rfl, ?_⟩) (by assumption) ?_
  case refine_2 => (intro w hSw; have p := (B.keep hSw).cell; have v00 := (hSw.cell (p := ⟨b, o, none⟩) hb).trans u00; have v01 := (hSw.cell (p := ⟨b, o + 1, none⟩) hb).trans u01; have v02 := (hSw.cell (p := ⟨b, o + 2, none⟩) hb).trans u02; have v03 := (hSw.cell (p := ⟨b, o + 3, none⟩) hb).trans u03; have v10 := (hSw.cell (p := ⟨b, o + 4, none⟩) hb).trans u10; have v11 := (hSw.cell (p := ⟨b, o + 4 + 1, none⟩) hb).trans u11; have v12 := (hSw.cell (p := ⟨b, o + 4 + 2, none⟩) hb).trans u12; have v13 := (hSw.cell (p := ⟨b, o + 4 + 3, none⟩) hb).trans u13; go_simp; first | done | with_reducible rfl)
  simp only [Act.put, qA, qB, qC]
  refine wpAnyH_take (i := 7) (oi := ⟨some 111, _, _, _, _, _⟩) (v := ?_) rfl (by kernel_rfl) (by kernel_rfl) (by kernel_rfl) (fun _ _ _ h => h) (Or.inl ⟨by rfl, ?_⟩) (by assumption) ?_
  case refine_2 => (intro w hSw; skip; go_simp; first | done | with_reducible rfl)
  simp only [Act.put, qA, qB, qC]
  refine wpAnyH_take (i := 8) (oi := ⟨some 112, _, _, _, _, _⟩) (v := ?_) rfl (by kernel_rfl) (by kernel_rfl) (by kernel_rfl) (fun _ _ _ h => h) (Or.inl ⟨by rfl, ?_⟩) (by assumption) ?_
  case refine_2 => (intro w hSw; have p := (B.keep hSw).cell; have v00 := (hSw.cell (p := ⟨b, o, none⟩) hb).trans u00; have v01 := (hSw.cell (p := ⟨b, o + 1, none⟩) hb).trans u01; have v02 := (hSw.cell (p := ⟨b, o + 2, none⟩) hb).trans u02; have v03 := (hSw.cell (p := ⟨b, o + 3, none⟩) hb).trans u03; have v10 := (hSw.cell (p := ⟨b, o + 4, none⟩) hb).trans u10; have v11 := (hSw.cell (p := ⟨b, o + 4 + 1, none⟩) hb).trans u11; have v12 := (hSw.cell (p := ⟨b, o + 4 + 2, none⟩) hb).trans u12; have v13 := (hSw.cell (p := ⟨b, o + 4 + 3, none⟩) hb).trans u13; go_simp; first | done | with_reducible rfl)
  simp only [Act.put, qA, qB, qC]
  refine wpAnyH_take (i := 11) (oi := ⟨some 115, _, _, _, _, _⟩) (v := ?_) rfl (by kernel_rfl) (by kernel_rfl) (by kernel_rfl) (fun _ _ _ h => h) (Or.inl ⟨by rfl, ?_⟩) (by assumption) ?_
  case refine_2 => (intro w hSw; skip; go_simp; first | done | with_reducible rfl)
  simp only [Act.put, qA, qB, qC]
  refine wpAnyH_take (i := 12) (oi := ⟨some 116, _, _, _, _, _⟩) (v := ?_) rfl (by kernel_rfl) (by kernel_rfl) (by kernel_rfl) (fun _ _ _ h => h) (Or.inl ⟨by rfl, ?_⟩) (by assumption) ?_
  case refine_2 => (intro w hSw; have p := (B.keep hSw).cell; have v00 := (hSw.cell (p := ⟨b, o, none⟩) hb).trans u00; have v01 := (hSw.cell (p := ⟨b, o + 1, none⟩) hb).trans u01; have v02 := (hSw.cell (p := ⟨b, o + 2, none⟩) hb).trans u02; have v03 := (hSw.cell (p := ⟨b, o + 3, none⟩) hb).trans u03; have v10 := (hSw.cell (p := ⟨b, o + 4, none⟩) hb).trans u10; have v11 := (hSw.cell (p := ⟨b, o + 4 + 1, none⟩) hb).trans u11; have v12 := (hSw.cell (p := ⟨b, o + 4 + 2, none⟩) hb).trans u12; have v13 := (hSw.cell (p := ⟨b, o + 4 + 3, none⟩) hb).trans u13; go_simp; first | done | with_reducible rfl)
  simp only [Act.put, qA, qB, qC]
  refine wpAnyH_take (i := 13) (oi := ⟨some 117, _, _, _, _, _⟩) (v := ?_) rfl (by kernel_rfl) (by kernel_rfl) (by kernel_rfl) (fun _ _ _ h => h) (Or.inl ⟨by rfl, ?_⟩) (by assumption) ?_
  case refine_2 => (intro w hSw; skip; go_simp; (try rw [if_pos (by omega)]); first | done | with_reducible rfl)
  simp only [Act.put, qA, qB, qC]
  refine wpAnyH_take (i := 14) (oi := ⟨some 118, _, _, _, _, _⟩) (v := ?_) rfl (by kernel_rfl) (by kernel_rfl) (by kernel_rfl) (fun _ _ _ h => h) (Or.inl ⟨by rfl, ?_⟩) (by assumption) ?_
  case refine_2 => (intro w hSw; have p := (B.keep hSw).cell; have v00 := (hSw.cell (p := ⟨b, o, none⟩) hb).trans u00; have v01 := (hSw.cell (p := ⟨b, o + 1, none⟩) hb).trans u01; have v02 := (hSw.cell (p := ⟨b, o + 2, none⟩) hb).trans u02; have v03 := (hSw.cell (p := ⟨b, o + 3, none⟩) hb).trans u03; have v10 := (hSw.cell (p := ⟨b, o + 4, none⟩) hb).trans u10; have v11 := (hSw.cell (p := ⟨b, o + 4 + 1, none⟩) hb).trans u11; have v12 := (hSw.cell (p := ⟨b, o + 4 + 2, none⟩) hb).trans u12; have v13 := (hSw.cell (p := ⟨b, o + 4 + 3, none⟩) hb).trans u13; go_simp; first | done | with_reducible rfl)
  simp only [Act.put, qA, qB, qC]
  refine wpAnyH_ready (rs := [4]) (by kernel_rfl) (by simp) ?_
  refine AllReadyH.cons (o := ⟨some 108, _, _, _, _, _⟩) rfl (fun K hK => ?_) AllReadyH.nil
  go_simp
  refine (CT0.out _ (hTW.keep hHeld) ((hS0.below hHeld (Nat.le_refl _)).more (Nat.le_refl _) hHeld.size)).mono ?_; rintro e y0 ⟨rfl, by0⟩
  go_wp2_with fail
  refine hK.out _ _ (bl_trans hHeld by0) (fun hHeld => ?_)
  clear hK K
  try simp only [Act.put, qA, qB, qC]
  refine wpAnyH_take (i := 5) (oi := ⟨some 109, _, _, _, _, _⟩) (v := ?_) rfl (by kernel_rfl) (by kernel_rfl) (by kernel_rfl) (fun _ _ _ h => h) (Or.inl ⟨by rfl, ?_⟩) (by assumption) ?_
  case refine_2 => (intro w hSw; skip; go_simp; (try rw [if_neg (by omega)]); first | done | with_reducible rfl)
  simp only [Act.put, qA, qB, qC]
  refine wpAnyH_take (i := 6) (oi := ⟨some 110, _, _, _, _, _⟩) (v := ?_) rfl (by kernel_rfl) (by kernel_rfl) (by kernel_rfl) (fun _ _ _ h => h) (Or.inl ⟨by rfl, ?_⟩) (by assumption) ?_
  case refine_2 => (intro w hSw; skip; go_simp; (try rw [if_neg (by omega)]); first | done | with_reducible rfl)
  simp only [Act.put, qA, qB, qC]
  refine wpAnyH_take (i := 9) (oi := ⟨some 113, _, _, _, _, _⟩) (v := ?_) rfl (by kernel_rfl) (by kernel_rfl) (by kernel_rfl) (fun _ _ _ h => h) (Or.inl ⟨by rfl, ?_⟩) (by assumption) ?_
  case refine_2 => (intro w hSw; skip; go_simp; (try rw [if_neg (by omega)]); first | done | with_reducible rfl)
  simp only [Act.put, qA, qB, qC]
  refine wpAnyH_take (i := 10) (oi := ⟨some 114, _, _, _, _, _⟩) (v := ?_) rfl (by kernel_rfl) (by kernel_rfl) (by kernel_rfl) (fun _ _ _ h => h) (Or.inl ⟨by rfl, ?_⟩) (by assumption) ?_
  case refine_2 => (intro w hSw; skip; go_simp; (try rw [if_neg (by omega)]); first | done | with_reducible rfl)
  simp only [Act.put, qA, qB, qC]
  refine wpAnyH_ready (rs := [15]) (by kernel_rfl) (by simp) ?_
  refine AllReadyH.cons (o := ⟨some 119, _, _, _, _, _⟩) rfl (fun K hK => ?_) AllReadyH.nil
  go_simp
  refine (CT1.out _ (hTW.keep hHeld) ((hS1.below hHeld (Nat.le_refl _)).more (Nat.le_refl _) hHeld.size)).mono ?_; rintro e y1 ⟨rfl, by1⟩
  go_wp2_with fail
  refine hK.out _ _ (bl_trans hHeld by1) (fun hHeld => ?_)
  clear hK K
  try simp only [Act.put, qA, qB, qC]
  refine wpAnyH_take (i := 16) (oi := ⟨some 120, _, _, _, _, _⟩) (v := ?_) rfl (by kernel_rfl) (by kernel_rfl) (by kernel_rfl) (fun _ _ _ h => h) (Or.inl ⟨by rfl, ?_⟩) (by assumption) ?_
  case refine_2 => (intro w hSw; skip; go_simp; (try rw [if_neg (by omega)]); first | done | with_reducible rfl)
  simp only [Act.put, qA, qB, qC]
  refine wpAnyH_take (i := 17) (oi := ⟨some 121, _, _, _, _, _⟩) (v := ?_) rfl (by kernel_rfl) (by kernel_rfl) (by kernel_rfl) (fun _ _ _ h => h) (Or.inl ⟨by rfl, ?_⟩) (by assumption) ?_
  case refine_2 => (intro w hSw; skip; go_simp; (try rw [if_neg (by omega)]); first | done | with_reducible rfl)
  simp only [Act.put, qA, qB, qC]
  refine wpAnyH_take (i := 18) (oi := ⟨some 2, _, _, _, _, _⟩) (v := ?_) rfl (by kernel_rfl) (by kernel_rfl) (by kernel_rfl) (fun _ _ _ h => h) (Or.inl ⟨by rfl, ?_⟩) (by assumption) ?_
  case refine_2 => (intro w hSw; skip; go_simp; first | done | with_reducible rfl)
  simp only [Act.put, qA, qB, qC]
  refine wpAnyH_done (by kernel_rfl) ?_ _
  go_wp2_with fail
  go_ret
  exact ⟨ret_str HE.out.symm, bl_trans L0 hHeld⟩

theorem sTextE_step (K : Nat) (zk zn : Int) (zs : ByteArray) (kids : Fr (Int × Int × ByteArray)) (A : Option Addr) (c : Nat) (w : World) (hK : kids.size ≤ K) (hl : kids.size ≤ 1048576) (hH : hereE (zk, zn, zs) kids.len = true) (hok : okNA cntE.here kids = true) (hwz : zs.size + wt gExpr kids ≤ 1048576) (hT : Tab w) (hS : Sl exprC w 0 w.heap.size A kids) (ih : ∀ (kids : Fr (Int × Int × ByteArray)), kids.size < K → ∀ (zk zn : Int) (zs : ByteArray) (A : Option Addr) (c : Nat) (w : World), hereE (zk, zn, zs) kids.len = true → okNA cntE.here kids = true → zs.size + wt gExpr kids ≤ 1048576 → Tab w → Sl exprC w 0 w.heap.size A kids → Calls Tryz.prog 23 #[.agg #[.int .i64 zk, .int .i64 zn, .string zs, .slice A kids.len c]] w fun e w' => e = .returned (.string (txE (zk, zn, zs) (rowX kids))) ∧ Below w.heap.size w w') :
    Calls Tryz.prog 23 #[.agg #[.int .i64 zk, .int .i64 zn, .string zs, .slice A kids.len c]] w fun e w' => e = .returned (.string (txE (zk, zn, zs) (rowX kids))) ∧ Below w.heap.size w w' := by
  by_cases n1 : zk = 1
  · subst n1; exact sTextE_1 K zn zs kids A c w hK hl hH hok hwz hT hS ih
  obtain ⟨rfl, hkd⟩ := kidsE_zero n1 hH
  by_cases n2 : zk = 2
  · subst n2; exact sTextE_2 K zs kids A c w hK hl hH hok hwz hT hS ih
  by_cases n3 : zk = 3
  · subst n3; exact sTextE_3 K zs kids A c w hK hl hH hok hwz hT hS ih
  by_cases n4 : zk = 4
  · subst n4; exact sTextE_4 K zs kids A c w hK hl hH hok hwz hT hS ih
  by_cases n5 : zk = 5
  · subst n5; exact sTextE_5 K zs kids A c w hK hl hH hok hwz hT hS ih
  by_cases n6 : zk = 6
  · subst n6; exact sTextE_6 K zs kids A c w hK hl hH hok hwz hT hS ih
  by_cases n7 : zk = 7
  · subst n7; exact sTextE_7 K zs kids A c w hK hl hH hok hwz hT hS ih
  by_cases n8 : zk = 8
  · subst n8; exact sTextE_8 K zs kids A c w hK hl hH hok hwz hT hS ih
  by_cases n9 : zk = 9
  · subst n9; exact sTextE_9 K zs kids A c w hK hl hH hok hwz hT hS ih
  by_cases n10 : zk = 10
  · subst n10; exact sTextE_10 K zs kids A c w hK hl hH hok hwz hT hS ih
  by_cases n11 : zk = 11
  · subst n11; exact sTextE_11 K zs kids A c w hK hl hH hok hwz hT hS ih
  by_cases n12 : zk = 12
  · subst n12; exact sTextE_12 K zs kids A c w hK hl hH hok hwz hT hS ih
  by_cases n13 : zk = 13
  · subst n13; exact sTextE_13 K zs kids A c w hK hl hH hok hwz hT hS ih
  by_cases n14 : zk = 14
  · subst n14; exact sTextE_14 K zs kids A c w hK hl hH hok hwz hT hS ih
  by_cases n15 : zk = 15
  · subst n15; exact sTextE_15 K zs kids A c w hK hl hH hok hwz hT hS ih
  by_cases n16 : zk = 16
  · subst n16; exact sTextE_16 K zs kids A c w hK hl hH hok hwz hT hS ih
  by_cases n17 : zk = 17
  · subst n17; exact sTextE_17 K zs kids A c w hK hl hH hok hwz hT hS ih
  by_cases n18 : zk = 18
  · subst n18; exact sTextE_18 K zs kids A c w hK hl hH hok hwz hT hS ih
  have := kindE_none (k := zk) (by intro j hj; simp only [List.mem_cons, List.not_mem_nil, or_false] at hj; rcases hj with rfl | rfl | rfl | rfl | rfl | rfl | rfl | rfl | rfl | rfl | rfl | rfl | rfl | rfl | rfl | rfl | rfl | rfl <;> assumption) zs kids.len
  rw [this] at hkd
  cases hkd
theorem sTextE_any (K : Nat) : K ≤ 1048576 → ∀ (kids : Fr (Int × Int × ByteArray)), kids.size ≤ K → ∀ (zk zn : Int) (zs : ByteArray) (A : Option Addr) (c : Nat) (w : World), hereE (zk, zn, zs) kids.len = true → okNA cntE.here kids = true → zs.size + wt gExpr kids ≤ 1048576 → Tab w → Sl exprC w 0 w.heap.size A kids → Calls Tryz.prog 23 #[.agg #[.int .i64 zk, .int .i64 zn, .string zs, .slice A kids.len c]] w fun e w' => e = .returned (.string (txE (zk, zn, zs) (rowX kids))) ∧ Below w.heap.size w w' := by
  induction K with
  | zero =>
    intro _ kids hK zk zn zs A c w hH hok hwz hT hS
    exact sTextE_step 0 zk zn zs kids A c w hK (by omega) hH hok hwz hT hS (fun kids h => by omega)
  | succ K ih =>
    intro hb kids hK zk zn zs A c w hH hok hwz hT hS
    exact sTextE_step (K + 1) zk zn zs kids A c w hK (by omega) hH hok hwz hT hS (fun kids h => ih (by omega) kids (by omega))

end Go.Proofs.YtemlnpncljomgaaGreatDoor
