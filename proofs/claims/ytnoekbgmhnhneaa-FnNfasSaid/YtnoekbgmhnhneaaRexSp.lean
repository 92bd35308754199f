/- Walk over the reference's count of a regular expression's parts: l3Parts. -/
import Derived.Test.YtnoekbgmhnhneaaQ1
namespace Go.Proofs.Ytnoekbgmhnhneaa
open Go.RowKit

set_option maxHeartbeats 2000000 in
theorem sParts_step (K : Nat) (zk : Int) (zs : ByteArray) (kids : Fr (Int × ByteArray)) (A : Option Addr) (c : Nat) (d : Int) (w : World) (hK : kids.size ≤ K) (hl : kids.size ≤ 1048576) (hd1 : 1 ≤ d) (hd7 : d ≤ 7) (hS : Sl rexC w 0 w.heap.size A kids)
    (ih : ∀ (kids : Fr (Int × ByteArray)), kids.size < K → ∀ (zk : Int) (zs : ByteArray) (A : Option Addr) (c : Nat) (d : Int) (w : World), 1 ≤ d → d ≤ 7 → Sl rexC w 0 w.heap.size A kids → Calls Try.prog 80 #[.agg #[.int .i64 zk, .string zs, .slice A kids.len c], .int .i64 d] w fun e w' => RetInt (fun x => Parts noneB (61 + 60 * (7 - d)) d zk zs kids x) e ∧ Below w.heap.size w w') :
    Calls Try.prog 80 #[.agg #[.int .i64 zk, .string zs, .slice A kids.len c], .int .i64 d] w fun e w' => RetInt (fun x => Parts noneB (61 + 60 * (7 - d)) d zk zs kids x) e ∧ Below w.heap.size w w' := by
  by_cases hd : 6 < d
  · go_enter Try.func80, Try.ntmps80
    go_wp2_with fail
    go_ret
    exact ⟨⟨61, rfl, Parts.deep (by omega) hd⟩, by repeat (first | exact Below.refl _ _ | refine bl_drewN ?_ _ | refine Below.drew ?_ | refine bl_alloc ?_ _ | refine bl_set ?_ (by simp) _ | refine bl_trans ?_ (by assumption))⟩
  have B := Blk.new w 45 #[.int .i64 zk, .string zs, .slice A kids.len c]
  have L0 := bl_alloc (Below.refl w.heap.size w) (.cells #[.int .i64 zk, .string zs, .slice A kids.len c] 45)
  have hlen := kids.len_size
  have IHH := Lib.hid ih
  clear ih
  go_enter Try.func80, Try.ntmps80
  go_wp2_with fail
  go_loopw [5, 6] (fun nv i wr => ∃ (k : Nat) (n : Int), k ≤ kids.len ∧ i = .int .i64 k ∧ nv = .int .i64 n ∧ ((Inv noneB (d + 1) kids n (kids.drop k)) ∨ (61 ≤ n ∧ n ≤ 61 + 60 * (7 - d) ∧ ¬ (okG noneB (d + 1) kids = true ∧ kids.size + 1 ≤ 60))) ∧ Blk wr w.heap.size 45 #[.int .i64 zk, .string zs, .slice A kids.len c] ∧ Below w.heap.size w wr) (fun _ i _ => kids.len - (intOf i).toNat)
  case atStart => exact ⟨0, 1, Nat.zero_le _, rfl, rfl, .inl (by rw [Fr.drop_zero]; exact Inv.start), B, L0⟩
  case round =>
    obtain ⟨k, n, hk, rfl, rfl, hI, hB, hL⟩ := hrel
    have cb := hB.cell
    by_cases hlt : k < kids.len
    · have hlt' : (k : Int) < (kids.len : Int) := by omega
      rcases hI with hI | ⟨h61, h121, hn⟩
      · obtain ⟨b, o, a, k1, A1, c1, rfl, hb, hdr, hks, hSk, q0, q1, q2⟩ := at_Rex (hS.below hL (Nat.le_refl _)) hlt
        obtain ⟨yk, ys⟩ := a
        simp only at q0 q1
        rw [hdr] at hI
        have hn60 : n ≤ 60 := hI.2.1
        have hn1 : 1 ≤ n := hI.1
        have C := Lib.hid (IHH.out k1 (by omega) yk ys A1 c1 (d + 1) wr (by omega) (by omega) (hSk.more (Nat.le_refl _) hL.size))
        have HI := Lib.hid hI
        clear hI hdr
        go_wp2_with fail
        refine C.out.mono ?_; rintro e w1 ⟨⟨x, rfl, hP⟩, b1⟩
        have hx1 : 1 ≤ x := hP.1
        have hx2 : x ≤ 61 + 60 * (7 - (d + 1)) := hP.2.1
        have HP := Lib.hid hP
        clear hP
        have hB1 := hB.keep b1
        go_wp2_with fail
        go_roundw
        case rel =>
          refine ⟨k + 1, n + x, by omega, by go_num, rfl, ?_, hB1, bl_trans hL b1⟩
          by_cases h60 : n + x ≤ 60
          · exact .inl (HI.out.next HP.out h60)
          · exact .inr ⟨by omega, by omega, HI.out.stop HP.out (by omega)⟩
        case measure => simp [intOf]; omega
      · have hn60 : ¬ n ≤ 60 := by omega
        go_wp2_with fail
        go_ret
        exact ⟨⟨n, rfl, Parts.much h61 h121 hn⟩, hL⟩
    · obtain rfl : k = kids.len := by omega
      rw [Fr.drop_all] at hI
      go_wp2_with fail
      go_ret
      refine ⟨⟨n, rfl, ?_⟩, hL⟩
      rcases hI with hI | ⟨h61, h121, hn⟩
      · exact Parts.well (by omega) (by omega) rfl hI
      · exact Parts.much h61 h121 hn

theorem sParts_any (K : Nat) : ∀ (kids : Fr (Int × ByteArray)), kids.size ≤ K → K ≤ 1048576 → ∀ (zk : Int) (zs : ByteArray) (A : Option Addr) (c : Nat) (d : Int) (w : World), 1 ≤ d → d ≤ 7 → Sl rexC w 0 w.heap.size A kids → Calls Try.prog 80 #[.agg #[.int .i64 zk, .string zs, .slice A kids.len c], .int .i64 d] w fun e w' => RetInt (fun x => Parts noneB (61 + 60 * (7 - d)) d zk zs kids x) e ∧ Below w.heap.size w w' := by
  induction K with
  | zero =>
    intro kids hK _ zk zs A c d w h1 h7 hS
    exact sParts_step 0 zk zs kids A c d w hK (by omega) h1 h7 hS (fun kids h => by omega)
  | succ K ih =>
    intro kids hK hb zk zs A c d w h1 h7 hS
    exact sParts_step (K + 1) zk zs kids A c d w hK (by omega) h1 h7 hS (fun kids h => ih kids (by omega) (by omega))

end Go.Proofs.Ytnoekbgmhnhneaa
