import Derived.Test.YtemlnpncljomgaaGreatDoorExprSh
namespace Go.Proofs.YtemlnpncljomgaaGreatDoor
open Go.RowKit

def qSmE (a : (Int × Int × ByteArray)) : Prop := a.2.2.size ≤ 1048576
theorem small_of_wtE : ∀ (fr : Fr (Int × Int × ByteArray)) (g : (Int × Int × ByteArray) → Nat), (∀ a, g a = a.2.2.size) → wt g fr ≤ 1048576 → FrOk qSmE fr
  | .nil, _, _, _ => trivial
  | .cons a k r, g, hg, h => by
    simp only [wt, hg] at h
    have := len_wt g k
    exact ⟨by show a.2.2.size ≤ _; omega, by omega, small_of_wtE k g hg (by omega), small_of_wtE r g hg (by omega)⟩
set_option maxHeartbeats 2000000 in
theorem sPartsE_step (K : Nat) (zk zn : Int) (zs : ByteArray) (kids : Fr (Int × Int × ByteArray)) (A : Option Addr) (c : Nat) (d : Int) (w : World) (hK : kids.size ≤ K) (hl : kids.size ≤ 1048576) (hd1 : 1 ≤ d) (hd7 : d ≤ 11) (hS : Sl exprC w 0 w.heap.size A kids)
    (ih : ∀ (kids : Fr (Int × Int × ByteArray)), kids.size < K → ∀ (zk zn : Int) (zs : ByteArray) (A : Option Addr) (c : Nat) (d : Int) (w : World), 1 ≤ d → d ≤ 11 → Sl exprC w 0 w.heap.size A kids → Calls Tryz.prog 32 #[.agg #[.int .i64 zk, .int .i64 zn, .string zs, .slice A kids.len c], .int .i64 d] w fun e w' => RetInt (fun x => PartsN cntE.none (101 + 100 * (11 - d)) d (zk, zn, zs) kids x) e ∧ Below w.heap.size w w') :
    Calls Tryz.prog 32 #[.agg #[.int .i64 zk, .int .i64 zn, .string zs, .slice A kids.len c], .int .i64 d] w fun e w' => RetInt (fun x => PartsN cntE.none (101 + 100 * (11 - d)) d (zk, zn, zs) kids x) e ∧ Below w.heap.size w w' := by
  have hM : cntE.none.M = 100 := rfl
  have hD : cntE.none.D = 10 := rfl
  have HM := Lib.hid hM
  have HD := Lib.hid hD
  clear hM hD
  by_cases hd : 10 < d
  · go_enter Tryz.func32, Tryz.ntmps32
    go_wp2_with fail
    go_ret
    exact ⟨⟨101, rfl, PartsN.deep (N := cntE.none) (by rw [HM.out]; omega) (by rw [HM.out]; omega) (by rw [HD.out]; exact hd)⟩, by repeat (first | exact Below.refl _ _ | refine bl_drewN ?_ _ | refine Below.drew ?_ | refine bl_alloc ?_ _ | refine bl_set ?_ (by simp) _ | refine bl_trans ?_ (by assumption))⟩
  have B := Blk.new w 29 #[.int .i64 zk, .int .i64 zn, .string zs, .slice A kids.len c]
  have L0 := bl_alloc (Below.refl w.heap.size w) (.cells #[.int .i64 zk, .int .i64 zn, .string zs, .slice A kids.len c] 29)
  have hlen := kids.len_size
  have IHH := Lib.hid ih
  clear ih
  go_enter Tryz.func32, Tryz.ntmps32
  go_wp2_with fail
  go_loopw [5, 6] (fun nv i wr => ∃ (k : Nat) (n : Int), k ≤ kids.len ∧ i = .int .i64 k ∧ nv = .int .i64 n ∧ ((InvN cntE.none (d + 1) kids n (kids.drop k)) ∨ (101 ≤ n ∧ n ≤ 101 + 100 * (11 - d) ∧ ¬ (okN cntE.none (d + 1) kids = true ∧ ((kids.size : Int) + 1 ≤ cntE.none.M)))) ∧ Blk wr w.heap.size 29 #[.int .i64 zk, .int .i64 zn, .string zs, .slice A kids.len c] ∧ Below w.heap.size w wr) (fun _ i _ => kids.len - (intOf i).toNat)
  case atStart => exact ⟨0, 1, Nat.zero_le _, rfl, rfl, .inl (by rw [Fr.drop_zero]; exact InvN.start (by rw [HM.out]; omega)), B, L0⟩
  case round =>
    obtain ⟨k, n, hk, rfl, rfl, hI, hB, hL⟩ := hrel
    have cb := hB.cell
    by_cases hlt : k < kids.len
    · have hlt' : (k : Int) < (kids.len : Int) := by omega
      rcases hI with hI | ⟨h61, h121, hn⟩
      · obtain ⟨b, o, a, k1, A1, c1, rfl, hb, hdr, hks, hSk, q0, q1, q2, q3⟩ := at_Expr (hS.below hL (Nat.le_refl _)) hlt
        obtain ⟨yk, yn, ys⟩ := a
        simp only at q0 q1 q2
        rw [hdr] at hI
        have hn60 : n ≤ 100 := by have := hI.2.1; rw [HM.out] at this; exact this
        have hn1 : 1 ≤ n := hI.1
        have C := Lib.hid (IHH.out k1 (by omega) yk yn ys A1 c1 (d + 1) wr (by omega) (by omega) (hSk.more (Nat.le_refl _) hL.size))
        have HI := Lib.hid hI
        clear hI hdr
        go_wp2_with fail
        refine C.out.mono ?_; rintro e w1 ⟨⟨x, rfl, hP⟩, b1⟩
        have hx1 : 1 ≤ x := hP.1
        have hx2 : x ≤ 101 + 100 * (11 - (d + 1)) := hP.2.1
        have HP := Lib.hid hP
        clear hP
        have hB1 := hB.keep b1
        go_wp2_with fail
        go_roundw
        case rel =>
          refine ⟨k + 1, n + x, by omega, by go_num, rfl, ?_, hB1, bl_trans hL b1⟩
          by_cases h60 : n + x ≤ 100
          · exact .inl (HI.out.next HP.out (by rw [HM.out]; exact h60))
          · exact .inr ⟨by omega, by omega, HI.out.stop HP.out (by rw [HM.out]; omega)⟩
        case measure => simp [intOf]; omega
      · have hn60 : ¬ n ≤ 100 := by omega
        have HN := Lib.hid hn
        clear hn
        go_wp2_with fail
        go_ret
        exact ⟨⟨n, rfl, PartsN.much (N := cntE.none) (by rw [HM.out]; omega) (by rw [HM.out]; exact h61) h121 HN.out⟩, hL⟩
    · obtain rfl : k = kids.len := by omega
      rw [Fr.drop_all] at hI
      have HI := Lib.hid hI
      clear hI
      go_wp2_with fail
      go_ret
      refine ⟨⟨n, rfl, ?_⟩, hL⟩
      rcases HI.out with hI | ⟨h61, h121, hn⟩
      · exact PartsN.well (by rw [HD.out]; omega) (by rw [HM.out]; omega) rfl hI
      · exact PartsN.much (by rw [HM.out]; omega) (by rw [HM.out]; exact h61) h121 hn
theorem sPartsE_any (K : Nat) : ∀ (kids : Fr (Int × Int × ByteArray)), kids.size ≤ K → K ≤ 1048576 → ∀ (zk zn : Int) (zs : ByteArray) (A : Option Addr) (c : Nat) (d : Int) (w : World), 1 ≤ d → d ≤ 11 → Sl exprC w 0 w.heap.size A kids → Calls Tryz.prog 32 #[.agg #[.int .i64 zk, .int .i64 zn, .string zs, .slice A kids.len c], .int .i64 d] w fun e w' => RetInt (fun x => PartsN cntE.none (101 + 100 * (11 - d)) d (zk, zn, zs) kids x) e ∧ Below w.heap.size w w' := by
  induction K with
  | zero =>
    intro kids hK _ zk zn zs A c d w h1 h7 hS
    exact sPartsE_step 0 zk zn zs kids A c d w hK (by omega) h1 h7 hS (fun kids h => by omega)
  | succ K ih =>
    intro kids hK hb zk zn zs A c d w h1 h7 hS
    exact sPartsE_step (K + 1) zk zn zs kids A c d w hK (by omega) h1 h7 hS (fun kids h => ih kids (by omega) (by omega))

theorem okNA_no {x : Fr (Int × Int × ByteArray)} {i : Nat} {a : (Int × Int × ByteArray)} {k : Fr (Int × Int × ByteArray)} (h : x.drop i = .cons a k (x.drop (i + 1))) (hn : (okNA cntE.here k && cntE.here a k) = false) : okNA cntE.here (x.drop i) = false := by rw [h, okNA, Bool.and_comm (cntE.here a k), hn, Bool.false_and]
theorem okNA_yes {x : Fr (Int × Int × ByteArray)} {i : Nat} {a : (Int × Int × ByteArray)} {k : Fr (Int × Int × ByteArray)} (h : x.drop i = .cons a k (x.drop (i + 1))) (hn : (okNA cntE.here k && cntE.here a k) = true) : okNA cntE.here (x.drop i) = okNA cntE.here (x.drop (i + 1)) := by rw [h, okNA, Bool.and_comm (cntE.here a k), hn, Bool.true_and]
set_option maxHeartbeats 2000000 in
theorem sOkE_step (K : Nat) (zk zn : Int) (zs : ByteArray) (kids : Fr (Int × Int × ByteArray)) (A : Option Addr) (c : Nat) (w : World) (hK : kids.size ≤ K) (hl : kids.size ≤ 1048576) (hz : zs.size ≤ 1048576) (hq : FrOk qSmE kids) (hS : Sl exprC w 0 w.heap.size A kids)
    (ih : ∀ (kids : Fr (Int × Int × ByteArray)), kids.size < K → FrOk qSmE kids → ∀ (zk zn : Int) (zs : ByteArray) (A : Option Addr) (c : Nat) (w : World), zs.size ≤ 1048576 → Sl exprC w 0 w.heap.size A kids → Calls Tryz.prog 33 #[.agg #[.int .i64 zk, .int .i64 zn, .string zs, .slice A kids.len c]] w fun e w' => e = .returned (.bool (okNA cntE.here kids && cntE.here (zk, zn, zs) kids)) ∧ Below w.heap.size w w') :
    Calls Tryz.prog 33 #[.agg #[.int .i64 zk, .int .i64 zn, .string zs, .slice A kids.len c]] w fun e w' => e = .returned (.bool (okNA cntE.here kids && cntE.here (zk, zn, zs) kids)) ∧ Below w.heap.size w w' := by
  have B := Blk.new w 29 #[.int .i64 zk, .int .i64 zn, .string zs, .slice A kids.len c]
  have L0 := bl_alloc (Below.refl w.heap.size w) (.cells #[.int .i64 zk, .int .i64 zn, .string zs, .slice A kids.len c] 29)
  have hlen := kids.len_size
  have IHH := Lib.hid ih
  have HQ := Lib.hid hq
  have HE := Lib.hid fun w => sHereE zk zn zs A kids.len c w hz
  obtain ⟨R, hR⟩ : ∃ R, okNA cntE.here kids = R := ⟨_, rfl⟩
  rw [hR, show cntE.here (zk, zn, zs) kids = hereE (zk, zn, zs) kids.len from rfl]
  have HR := Lib.hid hR
  clear ih hq hR
  generalize hereE (zk, zn, zs) kids.len = H at HE ⊢
  go_enter Tryz.func33, Tryz.ntmps33
  go_wp2_with fail
  go_loopw [3] (fun i wr => ∃ k : Nat, k ≤ kids.len ∧ i = .int .i64 k ∧ okNA cntE.here (kids.drop k) = R ∧ Blk wr w.heap.size 29 #[.int .i64 zk, .int .i64 zn, .string zs, .slice A kids.len c] ∧ Below w.heap.size w wr) (fun i _ => kids.len - (intOf i).toNat)
  case atStart => exact ⟨0, Nat.zero_le _, rfl, by rw [Fr.drop_zero]; exact HR.out, B, L0⟩
  case round =>
    obtain ⟨k, hk, rfl, hE, hB, hL⟩ := hrel
    have cb := hB.cell
    by_cases hlt : k < kids.len
    · obtain ⟨b, o, a, k1, A1, c1, rfl, hb, hd, hks, hSk, q0, q1, q2, q3⟩ := at_Expr (hS.below hL (Nat.le_refl _)) hlt
      have hqk := FrOk.drop k HQ.out
      rw [hd] at hqk
      obtain ⟨hqa, _, hqk, _⟩ := hqk
      obtain ⟨yk, yn, ys⟩ := a
      simp only at q0 q1 q2
      have hlt' : (k : Int) < (kids.len : Int) := by omega
      have cZ := IHH.out k1 (by omega) hqk yk yn ys A1 c1 wr hqa (hSk.more (Nat.le_refl _) hL.size)
      obtain ⟨z, hz⟩ : ∃ z, (okNA cntE.here k1 && cntE.here (yk, yn, ys) k1) = z := ⟨_, rfl⟩
      rw [hz] at cZ
      have CZ := Lib.hid cZ
      clear cZ
      cases z
      · rw [okNA_no hd hz] at hE
        subst hE
        clear hd hz HR hqk
        go_wp2_with fail
        refine CZ.out.mono ?_; rintro e w1 ⟨rfl, b1⟩
        go_wp2_with fail
        go_ret
        exact ⟨ret_bool (by simp), bl_trans hL b1⟩
      · have HN := Lib.hid ((okNA_yes hd hz).symm.trans hE)
        clear hd hz HR hqk hE
        go_wp2_with fail
        refine CZ.out.mono ?_; rintro e w1 ⟨rfl, b1⟩
        go_wp2_with fail
        go_roundw
        case rel => exact ⟨k + 1, by omega, by go_num, HN.out, hB.keep b1, bl_trans hL b1⟩
        case measure => simp [intOf]; omega
    · obtain rfl : k = kids.len := by omega
      rw [Fr.drop_all] at hE
      have hRt : true = R := hE
      subst hRt
      clear hE HR
      go_wp2_with fail
      refine (HE.out _).mono ?_; rintro e w1 ⟨rfl, b1⟩
      go_wp2_with fail
      go_ret
      exact ⟨ret_bool (by simp), bl_trans hL b1⟩
theorem sOkE_any (K : Nat) : ∀ (kids : Fr (Int × Int × ByteArray)), kids.size ≤ K → K ≤ 1048576 → FrOk qSmE kids → ∀ (zk zn : Int) (zs : ByteArray) (A : Option Addr) (c : Nat) (w : World), zs.size ≤ 1048576 → Sl exprC w 0 w.heap.size A kids → Calls Tryz.prog 33 #[.agg #[.int .i64 zk, .int .i64 zn, .string zs, .slice A kids.len c]] w fun e w' => e = .returned (.bool (okNA cntE.here kids && cntE.here (zk, zn, zs) kids)) ∧ Below w.heap.size w w' := by
  induction K with
  | zero =>
    intro kids hK _ hq zk zn zs A c w hz hS
    exact sOkE_step 0 zk zn zs kids A c w hK (by omega) hz hq hS (fun kids h => by omega)
  | succ K ih =>
    intro kids hK hb hq zk zn zs A c w hz hS
    exact sOkE_step (K + 1) zk zn zs kids A c w hK (by omega) hz hq hS (fun kids h hq => ih kids (by omega) (by omega) hq)

end Go.Proofs.YtemlnpncljomgaaGreatDoor
