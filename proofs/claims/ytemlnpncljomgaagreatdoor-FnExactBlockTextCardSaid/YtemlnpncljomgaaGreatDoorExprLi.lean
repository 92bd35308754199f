import Derived.Test.YtemlnpncljomgaaGreatDoorExprT
namespace Go.Proofs.YtemlnpncljomgaaGreatDoor
open Go.RowKit

theorem sVs_snocE (zs : List ByteArray) (z : ByteArray) : sVs (zs ++ [z]) = sVs zs ++ [.string z] := by simp [sVs]
set_option maxRecDepth 20000 in
set_option maxHeartbeats 4000000 in
theorem iListed (K : Nat) (kids : Fr (Int × Int × ByteArray)) (A : Option Addr) (c : Nat) (w : World) (hK : kids.size ≤ K) (hl : kids.size ≤ 1048576) (hok : okNA cntE.here kids = true) (hw : wt gExpr kids ≤ 1048576) (hT : Tab w) (hS : Sl exprC w 0 w.heap.size A kids) (ih : ∀ (kids : Fr (Int × Int × ByteArray)), kids.size < K → ∀ (zk zn : Int) (zs : ByteArray) (A : Option Addr) (c : Nat) (w : World), hereE (zk, zn, zs) kids.len = true → okNA cntE.here kids = true → zs.size + wt gExpr kids ≤ 1048576 → Tab w → Sl exprC w 0 w.heap.size A kids → Calls Tryz.prog 26 #[.agg #[.int .i64 zk, .int .i64 zn, .string zs, .slice A kids.len c]] w fun e w' => e = .returned (.string (txE (zk, zn, zs) (rowX kids))) ∧ Below w.heap.size w w') :
    Calls Tryz.prog 38 #[.slice A kids.len c] w fun e w' => e = .returned (.string (jnS [44, 32] (rowX kids) kids.len)) ∧ Below w.heap.size w w' := by
  have IHH := Lib.hid ih
  have HA := Lib.hid hok
  obtain ⟨i0, hi, hz0, hz1, hz2⟩ := info_parts info_str
  have HL := Lib.hid (rowX_len kids)
  have hjs := jnX_wt hw kids.len (Nat.le_refl _)
  have CJ : ∀ (A : Option Addr) (c : Nat) (w : World), Row w 0 w.heap.size 9 1 (.slice A kids.len c) kids.len (sVs (rowX kids)) → Calls Tryz.prog 47 #[.slice A kids.len c, .string ⟨#[44, 32]⟩] w fun e w' => e = .returned (.string (jnS [44, 32] (rowX kids) kids.len)) ∧ Below w.heap.size w w' := by
    intro A c w hO
    have hR := hO.reads
    have hcap := hO.cap.1
    have hj2 := hjs
    rw [← HL.out] at hR hcap hj2 ⊢
    rw [jnS_all] at hj2 ⊢
    rcases Nat.eq_zero_or_pos (rowX kids).length with h0 | h0
    · have hz : rowX kids = [] := List.eq_nil_of_length_eq_zero h0
      rw [hz]
      exact (Tryz.strings_Join_none A c ⟨#[44, 32]⟩ w).mono fun e w' ⟨he, hw⟩ => ⟨he, hw ▸ Below.refl _ _⟩
    · obtain ⟨b, off, rfl, hb, hx⟩ := hR.2 h0
      exact Tryz.strings_Join b off c (rowX kids) ⟨#[44, 32]⟩ w (fun j x hj => hx j (.string x) (by unfold sVs; rw [List.getElem?_map, hj]; rfl)) hb (by have := HL.out; have := kids.len_size; omega) hcap (by
        have e1 : (⟨(Lib.join ((rowX kids).map (·.data.toList)) [44, 32]).toArray⟩ : ByteArray).size = (Lib.join ((rowX kids).map (·.data.toList)) [44, 32]).length := by simp [ByteArray.size]
        rw [e1] at hj2
        show (Lib.join ((rowX kids).map (·.data.toList)) [44, 32]).length ≤ _
        omega)
  have HCJ := Lib.hid CJ
  have hlz := kids.len_size
  clear CJ ih hok
  generalize hJ : jnS [44, 32] (rowX kids) kids.len = J at HCJ hjs ⊢
  clear hJ
  go_enter Tryz.func38, Tryz.ntmps38
  go_wp2_with fail
  go_loopw [3, 8] (fun v i wr => ∃ k : Nat, k ≤ kids.len ∧ i = .int .i64 k ∧ wr.ownsRow w.heap.size 9 1 v k (sVs ((rowX kids).take k)) ∧ Below w.heap.size w wr) (fun _ i _ => kids.len - (intOf i).toNat)
  case atStart => exact ⟨0, Nat.zero_le _, rfl, World.ownsRow_nil _ _ _ _, Below.refl _ _⟩
  case round =>
    obtain ⟨k, hkk, rfl, hO, hL⟩ := hrel
    by_cases hlt : k < kids.len
    · obtain ⟨b, o, l, k1, A1, c1, hAe, hb, hd, hks, hSk, q0, q1, q2, q3⟩ := at_Expr (hS.below hL (Nat.le_refl _)) hlt
      subst hAe
      obtain ⟨h1, h2⟩ := okNA_at HA.out hd
      have hwa := wtE_at hd
      have hat := rowX_at hlt hd
      obtain ⟨yk, yn, ys⟩ := l
      simp only at q0 q1 q2 h1 hwa hat
      have hlt' : (k : Int) < (kids.len : Int) := by omega
      have hkl : (kids.len : Int) ≤ 1048576 := by omega
      have HT := Lib.hid (show (rowX kids).take (k + 1) = (rowX kids).take k ++ [txE (yk, yn, ys) (rowX k1)] by rw [List.take_succ_eq_append_getElem (by rw [HL.out]; exact hlt), hat])
      have L1 := bl_alloc hL (.cells #[.int .i64 yk, .int .i64 yn, .string ys, .slice A1 k1.len c1] 29)
      have C := IHH.out k1 (by omega) yk yn ys A1 c1 (wr.alloc (.cells #[.int .i64 yk, .int .i64 yn, .string ys, .slice A1 k1.len c1] 29)) h1 h2 (by omega) (hT.keep L1) ((hSk.below (B := wr.heap.size) (bl_alloc (Below.refl wr.heap.size wr) _) hL.size).more (Nat.le_refl _) L1.size)
      generalize txE (yk, yn, ys) (rowX k1) = t at C HT
      have CC := Lib.hid C
      clear C hat hd h1 h2
      go_wp2_with fail
      refine CC.out.mono ?_; rintro e w1 ⟨rfl, b1⟩
      have hL2 := bl_trans L1 b1
      have hO2 := ((Row.mk (hO.alloc (.cells #[.int .i64 yk, .int .i64 yn, .string ys, .slice A1 k1.len c1] 29))).keep b1).1
      go_wp2_with (at_builtin; refine wpList_push rfl _ _ 59 rfl w.heap.size 9 i0 (.string ⟨#[]⟩) 1 16 Tryz.underlying59 hi hz0 hz1 hz2 rfl (by decide) _ _ _ rfl hO2 _ rfl rfl rfl (by omega) (by omega) hL2.size ?_)
      intro v' w2 hO3 hg3
      go_wp2_with fail
      go_roundw
      case rel => exact ⟨k + 1, by omega, by go_num, by rw [HT.out, sVs_snocE]; exact hO3, hL2.grown hg3 hL2.size (fun q e => by have := (hO2.lt q e).1; omega)⟩
      case measure => simp [intOf]; omega
    · obtain rfl : k = kids.len := by omega
      rw [List.take_of_length_le (by rw [HL.out]; exact Nat.le_refl _)] at hO
      obtain ⟨Av, cv, rfl⟩ := (Row.mk hO).form
      go_wp2_with fail
      refine (HCJ.out Av cv _ ((Row.mk hO).more (Nat.zero_le _) (Nat.le_refl _))).mono ?_; rintro e w2 ⟨rfl, b2⟩
      go_wp2_with fail
      go_ret
      exact ⟨rfl, bl_trans hL b2⟩

end Go.Proofs.YtemlnpncljomgaaGreatDoor
