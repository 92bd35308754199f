import Derived.Test.YtemlnpncljomgaaGreatDoorExprT
namespace Go.Proofs.YtemlnpncljomgaaGreatDoor
open Go.RowKit

set_option maxRecDepth 20000 in
set_option maxHeartbeats 4000000 in
theorem sListX (K : Nat) (nm : ByteArray) (hnm : nm.size ≤ 1048576) (kids : Fr (Int × Int × ByteArray)) (A : Option Addr) (c : Nat) (w : World) (hK : kids.size ≤ K) (hl : kids.size ≤ 1048576) (hok : okNA cntE.here kids = true) (hw : wt gExpr kids ≤ 1048576) (hT : Tab w) (hS : Sl exprC w 0 w.heap.size A kids) (ih : ∀ (kids : Fr (Int × Int × ByteArray)), kids.size < K → ∀ (zk zn : Int) (zs : ByteArray) (A : Option Addr) (c : Nat) (w : World), hereE (zk, zn, zs) kids.len = true → okNA cntE.here kids = true → zs.size + wt gExpr kids ≤ 1048576 → Tab w → Sl exprC w 0 w.heap.size A kids → Calls Tryz.prog 23 #[.agg #[.int .i64 zk, .int .i64 zn, .string zs, .slice A kids.len c]] w fun e w' => e = .returned (.string (txE (zk, zn, zs) (rowX kids))) ∧ Below w.heap.size w w') :
    Calls Tryz.prog 35 #[.string nm, .slice A kids.len c] w fun e w' => e = .returned (.string (((nm ++ ⟨#[40]⟩) ++ jnS [44, 32] (rowX kids) kids.len) ++ ⟨#[41]⟩)) ∧ Below w.heap.size w w' := by
  have IHH := Lib.hid ih
  have HA := Lib.hid hok
  have HL := Lib.hid (rowX_len kids)
  have HJ := Lib.hid (fun k hk => jnX_wt hw k hk)
  have hlz := kids.len_size
  have hP : (nm ++ ⟨#[40]⟩).size = nm.size + 1 := by rw [ByteArray.size_append]; rfl
  obtain ⟨PP, hPP⟩ : ∃ PP, nm ++ ⟨#[40]⟩ = PP := ⟨_, rfl⟩
  have HPP := Lib.hid hPP
  have hP2 : PP.size = nm.size + 1 := by rw [← hPP]; exact hP
  clear ih hok hPP
  go_enter Tryz.func35, Tryz.ntmps35
  go_wp2_with fail
  go_loopw [5, 6] (fun sv i wr => ∃ (k : Nat) (a : ByteArray), k ≤ kids.len ∧ i = .int .i64 k ∧ sv = .string a ∧ PP ++ jnS [44, 32] (rowX kids) k = a ∧ Below w.heap.size w wr) (fun _ i _ => kids.len - (intOf i).toNat)
  case atStart => exact ⟨0, _, Nat.zero_le _, rfl, rfl, by rw [jnS_zero, ba_end]; exact HPP.out.symm, Below.refl _ _⟩
  case round =>
    obtain ⟨k, a, hk, rfl, rfl, ha, hL⟩ := hrel
    have has : a.size ≤ 72000000 := by
      have := HJ.out k hk
      rw [← ha, ByteArray.size_append]
      omega
    by_cases hlt : k < kids.len
    · obtain ⟨b, o, l, k1, A1, c1, hAe, hb, hd, hks, hSk, q0, q1, q2, q3⟩ := at_Expr (hS.below hL (Nat.le_refl _)) hlt
      subst hAe
      obtain ⟨yk, yn, ys⟩ := l
      simp only at q0 q1 q2
      have hlt' : (k : Int) < (kids.len : Int) := by omega
      obtain ⟨h1, h2⟩ := okNA_at HA.out hd
      have hwa := wtE_at hd
      have hat := rowX_at hlt hd
      have hkW : k < (rowX kids).length := by rw [HL.out]; exact hlt
      simp only at h1 hwa hat
      have cT := IHH.out k1 (by omega) yk yn ys A1 c1 wr h1 h2 (by omega) (hT.keep hL) (hSk.more (Nat.le_refl _) hL.size)
      have hts : (txE (yk, yn, ys) (rowX k1)).size ≤ 70000000 := txE_wt (by show ys.size + _ ≤ _; omega)
      generalize txE (yk, yn, ys) (rowX k1) = t at cT hat hts
      have z0 : (a ++ ⟨#[44, 32]⟩).size = a.size + 2 := by rw [ByteArray.size_append]; rfl
      have z1 : (a ++ ⟨#[44, 32]⟩ ++ t).size = a.size + 2 + t.size := by rw [ByteArray.size_append, z0]
      have z2 : (a ++ t).size = a.size + t.size := by rw [ByteArray.size_append]
      have CT := Lib.hid cT
      clear cT h1 h2 hd
      by_cases h0 : 0 < k
      · have hj := jnS_succ [44, 32] (rowX kids) k hkW h0
        rw [hat, show (⟨([44, 32] : List UInt8).toArray⟩ : ByteArray) = ⟨#[44, 32]⟩ from rfl] at hj
        have hJ2 : PP ++ jnS [44, 32] (rowX kids) (k + 1) = a ++ ⟨#[44, 32]⟩ ++ t := by rw [← hj, ← ha, ByteArray.append_assoc, ByteArray.append_assoc, ByteArray.append_assoc]
        have HJ2 := Lib.hid hJ2
        have h0' : (0 : Int) < k := by omega
        clear ha hat hj hJ2
        go_wp2_with fail
        refine CT.out.mono ?_; rintro e w1 ⟨rfl, b1⟩
        go_wp2_with fail
        go_roundw
        case rel => exact ⟨k + 1, _, by omega, by go_num, rfl, HJ2.out, bl_trans hL b1⟩
        case measure => simp [intOf]; omega
      · obtain rfl : k = 0 := by omega
        have hj := jnS_one [44, 32] (rowX kids) hkW
        rw [hat] at hj
        rw [jnS_zero, ba_end] at ha
        have hJ2 : PP ++ jnS [44, 32] (rowX kids) 1 = a ++ t := by rw [← hj, ha, ba_nil]
        have HJ2 := Lib.hid hJ2
        rw [Nat.zero_mul, Nat.add_zero] at q0 q1 q2 q3
        clear ha hat hj hJ2
        go_wp2_with fail
        refine CT.out.mono ?_; rintro e w1 ⟨rfl, b1⟩
        go_wp2_with fail
        go_roundw
        case rel => exact ⟨1, _, by omega, by go_num, rfl, HJ2.out, bl_trans hL b1⟩
        case measure => simp [intOf]; omega
    · obtain rfl : k = kids.len := by omega
      have z0 : (a ++ ⟨#[41]⟩).size = a.size + 1 := by rw [ByteArray.size_append]; rfl
      have HE := Lib.hid ha
      clear ha
      go_wp2_with fail
      go_ret
      exact ⟨ret_str (by rw [HPP.out, HE.out]), hL⟩

end Go.Proofs.YtemlnpncljomgaaGreatDoor
