import Derived.Test.YtemlnpncljomgaaGreatDoorParW
import Derived.Test.YtemlnpncljomgaaGreatDoorRexOk
import Derived.Deep.CutRange
import Derived.BigGuard
namespace Go.Proofs.YtemlnpncljomgaaGreatDoor
open Go.RowKit

set_option maxRecDepth 20000 in
set_option maxHeartbeats 2000000 in
theorem sIsBad (s : ByteArray) (d : Int) (g i : Nat) (c : Int) (w : World) (hB : Blk w g 91 #[.string s, .int .i64 i, .bool true, .int .i64 d]) :
    Calls Tryz.prog 95 #[.pointer (some ⟨g, 0, none⟩), .int .u8 c] w fun e w' => e = .returned (.bool false) ∧ Blk w' g 91 #[.string s, .int .i64 i, .bool true, .int .i64 d] ∧ w.grownBy w' (some g) := by
  have c0 := hB.cell
  go_enter Tryz.func95, Tryz.ntmps95
  go_wp2_with fail
  go_quiet (fail)
  go_wp2_with fail
  go_ret
  exact ⟨rfl, hB, gr_drewN (gr_refl _ _) _⟩
set_option maxRecDepth 20000 in
set_option maxHeartbeats 2000000 in
theorem sIsNo (s : ByteArray) (d : Int) (g i : Nat) (c : Int) (w : World) (_hs : s.size ≤ 1048576) (hn : (bA s i : Int) ≠ c) (hB : Blk w g 91 #[.string s, .int .i64 i, .bool false, .int .i64 d]) :
    Calls Tryz.prog 95 #[.pointer (some ⟨g, 0, none⟩), .int .u8 c] w fun e w' => e = .returned (.bool false) ∧ Blk w' g 91 #[.string s, .int .i64 i, .bool false, .int .i64 d] ∧ w.grownBy w' (some g) := by
  have c0 := hB.cell
  by_cases h : i < s.size
  · have hlt : (i : Int) < s.size := by omega
    rw [bA_in h] at hn
    have hx := s[i].toNat_lt
    have hx' : (s[i].toNat : Int) < 256 := by omega
    have hne : ((s[i].toNat : Int) != c) = true := by rw [bne_iff_ne]; omega
    go_enter Tryz.func95, Tryz.ntmps95
    go_wp2_with fail
    go_quiet (fail)
    go_wp2_with fail
    go_ret
    exact ⟨rfl, hB, gr_drewN (gr_refl _ _) _⟩
  · have hge : (s.size : Int) ≤ i := by omega
    clear hn
    go_enter Tryz.func95, Tryz.ntmps95
    go_wp2_with fail
    go_quiet (fail)
    go_wp2_with fail
    go_ret
    exact ⟨rfl, hB, gr_drewN (gr_refl _ _) _⟩
set_option maxRecDepth 20000 in
set_option maxHeartbeats 2000000 in
theorem sIsYes (s : ByteArray) (d : Int) (g i : Nat) (c : Int) (w : World) (hs : s.size ≤ 1048576) (hc : c < 256) (hn : (bA s i : Int) = c) (j : Nat) (hj : i + 1 = j) (hB : Blk w g 91 #[.string s, .int .i64 i, .bool false, .int .i64 d]) :
    Calls Tryz.prog 95 #[.pointer (some ⟨g, 0, none⟩), .int .u8 c] w fun e w' => e = .returned (.bool true) ∧ Blk w' g 91 #[.string s, .int .i64 j, .bool false, .int .i64 d] ∧ w.grownBy w' (some g) := by
  have c0 := hB.cell
  have f0 := hB.frozen
  have h : i < s.size := bA_lt (by omega)
  have hlt : (i : Int) < s.size := by omega
  rw [bA_in h] at hn
  have hx := s[i].toNat_lt
  have hx' : (s[i].toNat : Int) < 256 := by omega
  have hne : ((s[i].toNat : Int) != c) = false := by simp; omega
  clear hn
  have ew : IntKind.i64.wrap ((i : Int) + 1) = (j : Int) := by rw [IntWalk.i64_in _ (by omega)]; omega
  clear hj
  go_enter Tryz.func95, Tryz.ntmps95
  go_wp2_with fail
  go_quiet (fail)
  go_wp2_with fail
  go_ret
  have R9 := (hB.drewN nq).set_ 1 (.int .i64 (j : Int))
  simp only [List.setIfInBounds_toArray, List.set_cons_succ, List.set_cons_zero] at R9
  exact ⟨rfl, R9, gr_own (gr_drewN (gr_refl _ _) _) _⟩
set_option maxRecDepth 20000 in
set_option maxHeartbeats 1000000 in
theorem sBad (s : ByteArray) (d : Int) (g i : Nat) (b : Bool) (w : World) (hB : Blk w g 91 #[.string s, .int .i64 i, .bool b, .int .i64 d]) :
    Calls Tryz.prog 130 #[.pointer (some ⟨g, 0, none⟩)] w fun e w' => e = .returned (.agg #[.int .i64 0, .string ⟨#[]⟩, .slice none 0 0]) ∧ Blk w' g 91 #[.string s, .int .i64 i, .bool true, .int .i64 d] ∧ w.grownBy w' (some g) := by
  have hgl := hB.lt
  have hgr : g ≠ w.heap.size := by omega
  have hwr := Nat.le_refl w.heap.size
  have R1 := (hB.set_ 2 (.bool true)).alloc (.cells #[.int .i64 0, .string ⟨#[]⟩, .slice none 0 0] 82)
  simp only [List.setIfInBounds_toArray, List.set_cons_succ, List.set_cons_zero] at R1
  have Z1 : Blk ((w.setCell ⟨g, 2, none⟩ (.bool true)).alloc (.cells #[.int .i64 0, .string ⟨#[]⟩, .slice none 0 0] 82)) w.heap.size 82 #[.int .i64 0, .string ⟨#[]⟩, .slice none 0 0] := by have := Blk.new (w.setCell ⟨g, 2, none⟩ (.bool true)) 82 #[.int .i64 0, .string ⟨#[]⟩, .slice none 0 0]; rwa [show (w.setCell ⟨g, 2, none⟩ (.bool true)).heap.size = w.heap.size by simp] at this
  have G1 := gr_alloc (gr_own (j := 2) (gr_refl w (some g)) (.bool true)) (.cells #[.int .i64 0, .string ⟨#[]⟩, .slice none 0 0] 82)
  have c0 := hB.cell
  have f0 := hB.frozen
  go_enter Tryz.func130, Tryz.ntmps130
  go_upto_region 2 with fail
  generalize (w.setCell ⟨g, 2, none⟩ (.bool true)).alloc (.cells #[.int .i64 0, .string ⟨#[]⟩, .slice none 0 0] 82) = w1 at R1 Z1 G1 ⊢
  have z1 := Z1.cell
  have zf1 := Z1.frozen
  go_wp2_with fail
  exact bodyPost_ret (res_cell1 rfl _ _ _ _ _ _ rfl (((Z1.set_ 0 _).set_ 1 _).set_ 2 _) Tryz.underlying82 (by kernel_rfl)) rfl ⟨rfl, ((R1.farb hgr _).farb hgr _).farb hgr _, gr_setm (gr_setm (gr_setm G1 hwr _) hwr _) hwr _⟩

end Go.Proofs.YtemlnpncljomgaaGreatDoor
