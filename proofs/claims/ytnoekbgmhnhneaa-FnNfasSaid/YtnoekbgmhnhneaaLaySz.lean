/- Walks over the reference's l5Size, l5Alt, l5Lay: laying a regular expression's machine. -/
import Derived.Test.YtnoekbgmhnhneaaLayW
import Derived.Deep.CutRange
namespace Go.Proofs.Ytnoekbgmhnhneaa
open Go.RowKit

set_option maxHeartbeats 2000000 in
theorem sSize_step (K : Nat) (zk : Int) (zs : ByteArray) (kids : Fr (Int × ByteArray)) (A : Option Addr) (c : Nat) (w : World) (hK : kids.size ≤ K) (hl : kids.size ≤ 60) (hh : hereB zk zs kids = true) (hk : lOk kids = true) (hS : Sl rexC w 0 w.heap.size A kids)
    (ih : ∀ (kids : Fr (Int × ByteArray)), kids.size < K → ∀ (zk : Int) (zs : ByteArray) (A : Option Addr) (c : Nat) (w : World), kids.size ≤ 60 → hereB zk zs kids = true → lOk kids = true → Sl rexC w 0 w.heap.size A kids → Calls Try.prog 82 #[.agg #[.int .i64 zk, .string zs, .slice A kids.len c]] w fun e w' => e = .returned (.int .i64 (szR (zk, zs) kids : Nat)) ∧ Below w.heap.size w w') :
    Calls Try.prog 82 #[.agg #[.int .i64 zk, .string zs, .slice A kids.len c]] w fun e w' => e = .returned (.int .i64 (szR (zk, zs) kids : Nat)) ∧ Below w.heap.size w w' := by
  have B := Blk.new w 45 #[.int .i64 zk, .string zs, .slice A kids.len c]
  have L0 := bl_alloc (Below.refl w.heap.size w) (.cells #[.int .i64 zk, .string zs, .slice A kids.len c] 45)
  have hlen := kids.len_size
  have hsz := szF_le kids
  have hlen' : (kids.len : Int) ≤ 60 := by omega
  have IHH := Lib.hid ih
  clear ih
  go_enter Try.func82, Try.ntmps82
  go_wp2_with fail
  go_loopw [3, 4] (fun nv i wr => ∃ (k n : Nat), k ≤ kids.len ∧ i = .int .i64 k ∧ nv = .int .i64 n ∧ n + szF (kids.drop k) = szF kids ∧ Blk wr w.heap.size 45 #[.int .i64 zk, .string zs, .slice A kids.len c] ∧ Below w.heap.size w wr) (fun _ i _ => kids.len - (intOf i).toNat)
  case atStart => exact ⟨0, 0, Nat.zero_le _, rfl, rfl, by rw [Fr.drop_zero]; exact Nat.zero_add _, B, L0⟩
  case round =>
    clear B L0
    obtain ⟨k, n, hk0, rfl, rfl, hI, hB, hL⟩ := hrel
    have cb := hB.cell
    by_cases hlt : k < kids.len
    · have hlt' : (k : Int) < (kids.len : Int) := by omega
      obtain ⟨b, o, a, k1, A1, c1, rfl, hb, hdr, hks, hSk, q0, q1, q2⟩ := at_Rex (hS.below hL (Nat.le_refl _)) hlt
      obtain ⟨ha, hka⟩ := lOk_at hk hdr
      obtain ⟨yk, ys⟩ := a
      simp only at q0 q1 ha
      rw [hdr, szF_cons] at hI
      have C := Lib.hid (IHH.out k1 (by omega) yk ys A1 c1 wr (by omega) ha hka (hSk.more (Nat.le_refl _) hL.size))
      generalize szR (yk, ys) k1 = m at C hI
      have HI := Lib.hid (show n + m + szF (kids.drop (k + 1)) = szF kids by omega)
      have hnm : (n : Int) + m ≤ 240 := by omega
      clear hI hdr ha hka
      go_wp2_with fail
      refine C.out.mono ?_; rintro e w1 ⟨rfl, b1⟩
      go_wp2_with fail
      go_roundw
      case rel => exact ⟨k + 1, n + m, by omega, by go_num, by go_num, HI.out, hB.keep b1, bl_trans hL b1⟩
      case measure => simp [intOf]; omega
    · obtain rfl : k = kids.len := by omega
      rw [Fr.drop_all] at hI
      obtain rfl : n = szF kids := by simpa [szF] using hI
      have hs' : (szF kids : Int) ≤ 240 := by omega
      clear hI hk hsz
      rcases here_parts hh with ⟨rfl, ek⟩ | ⟨rfl, ek⟩ | ⟨rfl, ek⟩ | ⟨rfl, ek⟩ | ⟨rfl, ek⟩ | ⟨rfl, ek⟩ | ⟨rfl, ek⟩ | ⟨rfl, ek⟩ | ⟨rfl | rfl | rfl, ek⟩
      · clear ek hh
        go_wp2_with fail
        go_ret
        exact ⟨ret_int (by simp [szR, szO]), hL⟩
      · clear ek hh
        go_wp2_with fail
        go_ret
        exact ⟨ret_int (by simp [szR, szO]), hL⟩
      · clear ek hh
        go_wp2_with fail
        go_ret
        exact ⟨ret_int (by simp [szR, szO]), hL⟩
      · clear ek hh
        go_wp2_with fail
        go_ret
        exact ⟨ret_int (by simp [szR, szO]), hL⟩
      · clear ek hh
        go_wp2_with fail
        go_ret
        exact ⟨ret_int (by simp [szR, szO]), hL⟩
      · clear ek hh
        go_wp2_with fail
        go_ret
        exact ⟨ret_int (by simp [szR, szO]), hL⟩
      · clear ek hh
        go_wp2_with fail
        go_ret
        exact ⟨ret_int (by simp [szR, szO]), hL⟩
      · have h2 : (2 : Int) ≤ (kids.len : Int) := by omega
        have HE := Lib.hid ek
        clear ek hh
        go_wp2_with fail
        go_ret
        exact ⟨ret_int (by simp [szR, szO]; omega), hL⟩
      · clear ek hh
        go_wp2_with fail
        go_ret
        exact ⟨ret_int (by simp [szR, szO]), hL⟩
      · clear ek hh
        go_wp2_with fail
        go_ret
        exact ⟨ret_int (by simp [szR, szO]), hL⟩
      · clear ek hh
        go_wp2_with fail
        go_ret
        exact ⟨ret_int (by simp [szR, szO]), hL⟩
theorem sSize_any (K : Nat) : ∀ (kids : Fr (Int × ByteArray)), kids.size ≤ K → ∀ (zk : Int) (zs : ByteArray) (A : Option Addr) (c : Nat) (w : World), kids.size ≤ 60 → hereB zk zs kids = true → lOk kids = true → Sl rexC w 0 w.heap.size A kids → Calls Try.prog 82 #[.agg #[.int .i64 zk, .string zs, .slice A kids.len c]] w fun e w' => e = .returned (.int .i64 (szR (zk, zs) kids : Nat)) ∧ Below w.heap.size w w' := by
  induction K with
  | zero =>
    intro kids hK zk zs A c w h1 h2 h3 hS
    exact sSize_step 0 zk zs kids A c w hK h1 h2 h3 hS (fun kids h => by omega)
  | succ K ih =>
    intro kids hK zk zs A c w h1 h2 h3 hS
    exact sSize_step (K + 1) zk zs kids A c w hK h1 h2 h3 hS (fun kids h => ih kids (by omega))
theorem sSize (kids : Fr (Int × ByteArray)) (zk : Int) (zs : ByteArray) (A : Option Addr) (c : Nat) (w : World) (h1 : kids.size ≤ 60) (h2 : hereB zk zs kids = true) (h3 : lOk kids = true) (hS : Sl rexC w 0 w.heap.size A kids) : Calls Try.prog 82 #[.agg #[.int .i64 zk, .string zs, .slice A kids.len c]] w fun e w' => e = .returned (.int .i64 (szR (zk, zs) kids : Nat)) ∧ Below w.heap.size w w' := sSize_any kids.size kids (Nat.le_refl _) zk zs A c w h1 h2 h3 hS

end Go.Proofs.Ytnoekbgmhnhneaa
