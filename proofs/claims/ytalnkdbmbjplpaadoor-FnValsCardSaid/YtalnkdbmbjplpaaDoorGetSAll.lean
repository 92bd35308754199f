/- GetS at any place, the program's and the reference's. Lengths are at most 2 to the 29th. -/
import Derived.Test.YtalnkdbmbjplpaaDoorGetS
import Derived.Test.YtalnkdbmbjplpaaDoorGetSS
namespace Go.Proofs.YtalnkdbmbjplpaaDoor
open Go.RowKit

set_option maxHeartbeats 1000000 in
theorem sGetS (A : Option Addr) (c : Nat) (p : Int) (zs : List Int) (w : World) (hR : Reads w w.heap.size 1 A zs.length (u8s zs)) (hZ : Byt zs) (hn : zs.length ≤ 536870912) :
    Calls Tryd.prog 33 #[.slice A zs.length c, .int .i64 p] w fun e w' => e = .returned (resP (getS zs p)) ∧ Below w.heap.size w w' := by
  have hn' : (zs.length : Int) ≤ 536870912 := by omega
  by_cases h0 : 0 ≤ p
  · obtain ⟨a, rfl⟩ := Int.eq_ofNat_of_zero_le h0
    by_cases h1 : a < zs.length
    · exact sGetS_in A c a zs (getS zs a) w hR hZ hn h1 (by unfold getS; rw [if_pos (by omega)]; simp)
    · have hr : getS zs (a : Int) = none := by unfold getS; rw [if_neg (by omega)]
      rw [hr]
      clear hr
      have d1 : decide ((a : Int) < (zs.length : Int)) = false := by simp; omega
      have d2 : decide ((a : Int) ≤ (zs.length : Int) - 1) = false := by simp; omega
      have h1' : (zs.length : Int) ≤ (a : Int) := by omega
      go_enter Tryd.func33, Tryd.ntmps33
      go_wp2_with fail
      refine wp_loop_rounds 1 ?_
      rw [rounds_succ]
      go_wp2_with fail
      go_ret3
      exact ⟨rfl, Below.refl _ _⟩
  · have hr : getS zs p = none := by unfold getS; rw [if_neg (by omega)]
    rw [hr]
    clear hr
    have d1 : decide (0 ≤ p) = false := by simp; omega
    go_enter Tryd.func33, Tryd.ntmps33
    go_wp2_with fail
    refine wp_loop_rounds 1 ?_
    rw [rounds_succ]
    go_wp2_with fail
    go_ret3
    exact ⟨rfl, Below.refl _ _⟩

set_option maxHeartbeats 1000000 in
theorem iGetS (A : Option Addr) (c : Nat) (p : Int) (zs : List Int) (w : World) (hR : Reads w w.heap.size 1 A zs.length (u8s zs)) (hZ : Byt zs) (hn : zs.length ≤ 536870912) (hcap : zs.length ≤ c) (hc63 : c ≤ 9223372036854775807) :
    Calls Tryd.prog 24 #[.slice A zs.length c, .int .i64 p] w fun e w' => e = .returned (resP (getS zs p)) ∧ Below w.heap.size w w' := by
  have hn' : (zs.length : Int) ≤ 536870912 := by omega
  by_cases h0 : 0 ≤ p
  · obtain ⟨a, rfl⟩ := Int.eq_ofNat_of_zero_le h0
    by_cases h1 : a < zs.length
    · exact iGetS_in A c a zs (getS zs a) w hR hZ hn h1 hcap hc63 (by unfold getS; rw [if_pos (by omega)]; simp)
    · have hr : getS zs (a : Int) = none := by unfold getS; rw [if_neg (by omega)]
      rw [hr]
      clear hr
      have d1 : decide ((a : Int) < (zs.length : Int)) = false := by simp; omega
      have d2 : decide ((a : Int) ≤ (zs.length : Int) - 1) = false := by simp; omega
      have h1' : (zs.length : Int) ≤ (a : Int) := by omega
      go_enter Tryd.func24, Tryd.ntmps24
      go_wp2_with fail
      refine (iWithin _ _ _ _).mono ?_; rintro e w1 ⟨rfl, rfl⟩
      go_wp2_with fail
      go_ret3
      exact ⟨rfl, Below.refl _ _⟩
  · have hr : getS zs p = none := by unfold getS; rw [if_neg (by omega)]
    rw [hr]
    clear hr
    have d1 : decide (0 ≤ p) = false := by simp; omega
    go_enter Tryd.func24, Tryd.ntmps24
    go_wp2_with fail
    refine (iWithin _ _ _ _).mono ?_; rintro e w1 ⟨rfl, rfl⟩
    go_wp2_with fail
    go_ret3
    exact ⟨rfl, Below.refl _ _⟩

end Go.Proofs.YtalnkdbmbjplpaaDoor
