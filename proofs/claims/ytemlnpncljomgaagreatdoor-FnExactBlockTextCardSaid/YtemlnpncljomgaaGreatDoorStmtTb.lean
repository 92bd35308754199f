import Derived.Test.YtemlnpncljomgaaGreatDoorStmtTs
namespace Go.Proofs.YtemlnpncljomgaaGreatDoor
open Go.RowKit

theorem pret_size {s : St} (h : wtS gExpr s ≤ 1048576) {k : Nat} (hk : k ≤ s.len) : (blkS ((rowO s).take k)).size ≤ 70000000 := by
  have h1 := lenO_wt s
  have h2 := lenB_take (rowO s) k
  rw [blkS_size (rowO s) k (by rw [rowO_len]; exact hk)]
  omega

set_option maxRecDepth 20000 in
set_option maxHeartbeats 4000000 in
theorem sBlockT (s : St) (A : Option Addr) (c : Nat) (w : World) (hl : s.size ≤ 1048576) (hw : wtS gExpr s ≤ 1048576) (hq : StOk qSmS qSmE s) (hT : Tab w) (hS : SlS w 0 w.heap.size A s)  :
    Calls Tryz.prog 17 #[.slice A s.len c] w fun e w' => e = .returned (.string (blkT (rowO s))) ∧ Below w.heap.size w w' := by
  have HQ := Lib.hid hq
  have HL := Lib.hid (rowO_len s)
  have HJ := Lib.hid (fun k (hk : k ≤ s.len) => pret_size hw hk)
  have hlz := s.len_size
  clear hq
  go_enter Tryz.func17, Tryz.ntmps17
  go_wp2_with fail
  go_loopw [3, 4] (fun sv i wr => ∃ (k : Nat) (a : ByteArray), k ≤ s.len ∧ i = .int .i64 k ∧ sv = .string a ∧ blkS ((rowO s).take k) = a ∧ Below w.heap.size w wr) (fun _ i _ => s.len - (intOf i).toNat)
  case atStart => exact ⟨0, _, Nat.zero_le _, rfl, rfl, rfl, Below.refl _ _⟩
  case round =>
    obtain ⟨k, u, hk, rfl, rfl, ha, hL⟩ := hrel
    have has : u.size ≤ 70000000 := by rw [← ha]; exact HJ.out k hk
    by_cases hlt : k < s.len
    · have hlt' : (k : Int) < (s.len : Int) := by omega
      obtain ⟨b, o, a, x1, p1, q1, X1, cx1, P1, cp1, Q1, cq1, hAe, _, hb, hdr, hks, hT1, e0, e1, e2, e3, e4, e5⟩ := SlS.at_ (hS.below hL (Nat.le_refl _)) hlt
      subst hAe
      obtain ⟨yk, ys, yt⟩ := a
      simp only at e0 e1 e2
      have hqk := StOk.drop k HQ.out
      rw [hdr] at hqk
      obtain ⟨_, hqx, hqp, hqq, _⟩ := hqk
      have hwa := wtS_at hdr
      have hat := rowO_at hlt hdr
      simp only at hwa hat
      have hsu := blkS_succ (l := rowO s) (k := k) (by rw [HL.out]; exact hlt)
      rw [ha, hat] at hsu
      have C := sStmtText yk ys yt x1 p1 q1 X1 cx1 P1 cp1 Q1 cq1 wr (by omega) (by omega) ⟨hqp, hqq, hqx⟩ (hT.keep hL) (Tri.more (show Tri wr 0 w.heap.size X1 x1 P1 p1 Q1 q1 from hT1) (Nat.le_refl _) hL.size)
      have hts := stO_size (yk, ys, yt) x1 p1 q1
      simp only at hts
      generalize stO (yk, ys, yt) x1 p1 q1 = t at C hsu hts
      have hts2 : t.size ≤ 70000000 := by omega
      have z1 : (u ++ t).size = u.size + t.size := by rw [ByteArray.size_append]
      have z2 : (u ++ t ++ ⟨#[32]⟩).size = u.size + t.size + 1 := by rw [ByteArray.size_append, z1]; rfl
      have HN := Lib.hid hsu
      have CC := Lib.hid C
      clear C hdr hat hsu ha
      go_wp2_with fail
      refine CC.out.mono ?_; rintro e w1 ⟨rfl, b1⟩
      go_wp2_with fail
      go_roundw
      case rel => exact ⟨k + 1, _, by omega, by go_num, rfl, HN.out, bl_trans hL b1⟩
      case measure => simp [intOf]; omega
    · obtain rfl : k = s.len := by omega
      have z0 : (u ++ ⟨#[125]⟩).size = u.size + 1 := by rw [ByteArray.size_append]; rfl
      have HE := Lib.hid (show blkT (rowO s) = u ++ ⟨#[125]⟩ by unfold blkT; rw [← ha, ← HL.out, List.take_length])
      clear ha
      go_wp2_with fail
      go_ret
      exact ⟨ret_str HE.out.symm, hL⟩

end Go.Proofs.YtemlnpncljomgaaGreatDoor
