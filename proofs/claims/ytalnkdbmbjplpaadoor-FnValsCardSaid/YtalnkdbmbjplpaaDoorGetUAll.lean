/- GetU at any place, the program's and the reference's. Lengths are at most 2 to the 29th. -/
import Derived.Test.YtalnkdbmbjplpaaDoorGetU
namespace Go.Proofs.YtalnkdbmbjplpaaDoor
open Go.RowKit

set_option maxHeartbeats 1000000 in
theorem sGetU (A : Option Addr) (c : Nat) (p : Int) (zs : List Int) (w : World) (hR : Reads w w.heap.size 1 A zs.length (u8s zs)) (hZ : Byt zs) (hn : zs.length ≤ 536870912) :
    Calls Tryd.prog 32 #[.slice A zs.length c, .int .i64 p] w fun e w' => e = .returned (resP (getU zs p)) ∧ w' = w := by
  have hn' : (zs.length : Int) ≤ 536870912 := by omega
  by_cases h0 : 0 ≤ p
  · obtain ⟨a, rfl⟩ := Int.eq_ofNat_of_zero_le h0
    by_cases h1 : a < zs.length
    · exact sGetU_in A c a zs (getU zs a) w hR hZ hn h1 (by unfold getU; rw [if_pos (by omega)]; simp)
    · have hr : getU zs (a : Int) = none := by unfold getU; rw [if_neg (by omega)]
      rw [hr]
      clear hr
      have d1 : decide ((a : Int) < (zs.length : Int)) = false := by simp; omega
      have d2 : decide ((a : Int) ≤ (zs.length : Int) - 1) = false := by simp; omega
      have h1' : (zs.length : Int) ≤ (a : Int) := by omega
      go_enter Tryd.func32, Tryd.ntmps32
      go_wp2_with fail
      refine wp_loop_rounds 1 ?_
      rw [rounds_succ]
      go_wp2_with fail
      go_ret3
      exact ⟨rfl, rfl⟩
  · have hr : getU zs p = none := by unfold getU; rw [if_neg (by omega)]
    rw [hr]
    clear hr
    have d1 : decide (0 ≤ p) = false := by simp; omega
    go_enter Tryd.func32, Tryd.ntmps32
    go_wp2_with fail
    refine wp_loop_rounds 1 ?_
    rw [rounds_succ]
    go_wp2_with fail
    go_ret3
    exact ⟨rfl, rfl⟩

set_option maxHeartbeats 1000000 in
theorem iGetU (A : Option Addr) (c : Nat) (p : Int) (zs : List Int) (w : World) (hR : Reads w w.heap.size 1 A zs.length (u8s zs)) (hZ : Byt zs) (hn : zs.length ≤ 536870912) :
    Calls Tryd.prog 23 #[.slice A zs.length c, .int .i64 p] w fun e w' => e = .returned (resP (getU zs p)) ∧ w' = w := by
  have hn' : (zs.length : Int) ≤ 536870912 := by omega
  by_cases h0 : 0 ≤ p
  · obtain ⟨a, rfl⟩ := Int.eq_ofNat_of_zero_le h0
    by_cases h1 : a < zs.length
    · exact iGetU_in A c a zs (getU zs a) w hR hZ hn h1 (by unfold getU; rw [if_pos (by omega)]; simp)
    · have hr : getU zs (a : Int) = none := by unfold getU; rw [if_neg (by omega)]
      rw [hr]
      clear hr
      have d1 : decide ((a : Int) < (zs.length : Int)) = false := by simp; omega
      have d2 : decide ((a : Int) ≤ (zs.length : Int) - 1) = false := by simp; omega
      have h1' : (zs.length : Int) ≤ (a : Int) := by omega
      go_enter Tryd.func23, Tryd.ntmps23
      go_wp2_with fail
      refine (iWithin _ _ _ _).mono ?_; rintro e w1 ⟨rfl, rfl⟩
      go_wp2_with fail
      go_ret3
      exact ⟨rfl, rfl⟩
  · have hr : getU zs p = none := by unfold getU; rw [if_neg (by omega)]
    rw [hr]
    clear hr
    have d1 : decide (0 ≤ p) = false := by simp; omega
    go_enter Tryd.func23, Tryd.ntmps23
    go_wp2_with fail
    refine (iWithin _ _ _ _).mono ?_; rintro e w1 ⟨rfl, rfl⟩
    go_wp2_with fail
    go_ret3
    exact ⟨rfl, rfl⟩

end Go.Proofs.YtalnkdbmbjplpaaDoor
