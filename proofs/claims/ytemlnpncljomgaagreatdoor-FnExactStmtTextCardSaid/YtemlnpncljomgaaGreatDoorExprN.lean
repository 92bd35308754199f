import Derived.Test.YtemlnpncljomgaaGreatDoorExprP
import Derived.Test.YtemlnpncljomgaaGreatDoorQ1
import Derived.Test.YtemlnpncljomgaaGreatDoorParB
import Derived.Test.YtemlnpncljomgaaGreatDoorPasF
namespace Go.Proofs.YtemlnpncljomgaaGreatDoor
open Go.RowKit

set_option maxHeartbeats 400000 in
theorem iOpsL (w : World) :
    Calls Tryz.prog 62 #[] w fun e w' => (∃ g, e = .returned (.slice (some ⟨g, 0, none⟩) 14 14) ∧ Blk w' g 9 (strs exOps)) ∧ Below w.heap.size w w' := by
  go_enter Tryz.func62, Tryz.ntmps62
  go_wp2_with fail
  go_ret
  exact ⟨⟨_, rfl, Blk.new _ _ _⟩, bl_alloc (Below.refl _ _) _⟩
set_option maxHeartbeats 400000 in
theorem sOpsL (w : World) :
    Calls Tryz.prog 55 #[] w fun e w' => (∃ g, e = .returned (.slice (some ⟨g, 0, none⟩) 14 14) ∧ Blk w' g 9 (strs exOps)) ∧ Below w.heap.size w w' := by
  go_enter Tryz.func55, Tryz.ntmps55
  go_wp2_with fail
  go_ret
  exact ⟨⟨_, rfl, Blk.new _ _ _⟩, bl_alloc (Below.refl _ _) _⟩

set_option maxHeartbeats 1000000 in
theorem iRexN (s : ByteArray) (w : World) (hs : s.size ≤ 1048576) :
    Calls Tryz.prog 63 #[.string s] w fun e w' => e = .returned (.bool (rexNB s)) ∧ Below w.heap.size w w' := by
  have c := iParseRex s w hs
  skip
  unfold rexNB
  generalize parseP true 40 s = P at c ⊢
  obtain ⟨q, hq⟩ : ∃ q, P.isSome = q := ⟨_, rfl⟩
  have C := Lib.hid c
  clear c
  by_cases h2 : s.size ≤ 200
  · have g2 : (s.size : Int) ≤ 200 := by omega
    have hd : decide (s.size ≤ 200) = true := by simp [h2]
    rw [hq, hd]
    go_enter Tryz.func63, Tryz.ntmps63
    go_wp2_with fail
    refine C.out.mono ?_; rintro e w1 ⟨⟨k, t, kids, A, c, rfl, _, _⟩, b1⟩
    rw [hq]
    cases q
    · go_wp2_with fail
      go_ret
      exact ⟨by first | rfl | exact ret_bool (decide_eq_true g2), bl_alloc b1 _⟩
    · go_wp2_with fail
      go_ret
      exact ⟨by first | rfl | exact ret_bool (decide_eq_true g2), bl_alloc b1 _⟩
  · have g2 : ¬ (s.size : Int) ≤ 200 := by omega
    have hd : decide (s.size ≤ 200) = false := by simp [h2]
    rw [hq, hd, Bool.and_false]
    go_enter Tryz.func63, Tryz.ntmps63
    go_wp2_with fail
    refine C.out.mono ?_; rintro e w1 ⟨⟨k, t, kids, A, c, rfl, _, _⟩, b1⟩
    rw [hq]
    cases q
    · go_wp2_with fail
      go_ret
      exact ⟨by first | rfl | exact ret_bool (decide_eq_false (by omega)), bl_alloc b1 _⟩
    · go_wp2_with fail
      go_ret
      exact ⟨by first | rfl | exact ret_bool (decide_eq_false (by omega)), bl_alloc b1 _⟩

set_option maxHeartbeats 1000000 in
theorem sRexN (s : ByteArray) (w : World) :
    Calls Tryz.prog 56 #[.string s] w fun e w' => e = .returned (.bool (rexNB s)) ∧ Below w.heap.size w w' := by
  have c := sParseRex s w
  rw [← parse_same s] at c
  unfold rexNB
  generalize parseP true 40 s = P at c ⊢
  obtain ⟨q, hq⟩ : ∃ q, P.isSome = q := ⟨_, rfl⟩
  have C := Lib.hid c
  clear c
  by_cases h2 : s.size ≤ 200
  · have g2 : (s.size : Int) ≤ 200 := by omega
    have hd : decide (s.size ≤ 200) = true := by simp [h2]
    rw [hq, hd]
    go_enter Tryz.func56, Tryz.ntmps56
    go_wp2_with fail
    refine C.out.mono ?_; rintro e w1 ⟨⟨k, t, kids, A, c, rfl, _, _⟩, b1⟩
    rw [hq]
    cases q
    · go_wp2_with fail
      go_ret
      exact ⟨by first | rfl | exact ret_bool (decide_eq_true g2), bl_alloc b1 _⟩
    · go_wp2_with fail
      go_ret
      exact ⟨by first | rfl | exact ret_bool (decide_eq_true g2), bl_alloc b1 _⟩
  · have g2 : ¬ (s.size : Int) ≤ 200 := by omega
    have hd : decide (s.size ≤ 200) = false := by simp [h2]
    rw [hq, hd, Bool.and_false]
    go_enter Tryz.func56, Tryz.ntmps56
    go_wp2_with fail
    refine C.out.mono ?_; rintro e w1 ⟨⟨k, t, kids, A, c, rfl, _, _⟩, b1⟩
    rw [hq]
    cases q
    · go_wp2_with fail
      go_ret
      exact ⟨by first | rfl | exact ret_bool (decide_eq_false (by omega)), bl_alloc b1 _⟩
    · go_wp2_with fail
      go_ret
      exact ⟨by first | rfl | exact ret_bool (decide_eq_false (by omega)), bl_alloc b1 _⟩

set_option maxHeartbeats 400000 in
theorem iMany (g n : Nat) (zk zn : Int) (zs : ByteArray) (A : Option Addr) (len c : Nat) (w : World) (hB : Blk w g 29 #[.int .i64 zk, .int .i64 zn, .string zs, .slice A len c]) :
    Calls Tryz.prog 57 #[.int .i64 n, .pointer (some ⟨g, 0, none⟩)] w fun e w' => e = .returned (.bool (len == n)) ∧ Below w.heap.size w w' := by
  have p := hB.cell
  have hh : ((len : Int) == (n : Int)) = (len == n) := by
    by_cases h : len = n
    · subst h; simp
    · rw [beq_eq_false_iff_ne.2 h]; exact beq_eq_false_iff_ne.2 (by omega)
  obtain ⟨q, hq⟩ : ∃ q, (len == n) = q := ⟨_, rfl⟩
  rw [hq] at hh ⊢
  go_enter Tryz.func57, Tryz.ntmps57
  go_wp2_with fail
  go_ret
  exact ⟨rfl, by repeat (first | exact Below.refl _ _ | refine bl_drewN ?_ _ | refine Below.drew ?_ | refine bl_alloc ?_ _ | refine bl_set ?_ (by simp) _ | refine bl_trans ?_ (by assumption))⟩

end Go.Proofs.YtemlnpncljomgaaGreatDoor
