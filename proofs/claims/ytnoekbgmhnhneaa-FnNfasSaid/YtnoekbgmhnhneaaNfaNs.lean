/- Walk over the reference's l5Node: is a node right. -/
import Derived.Test.YtnoekbgmhnhneaaNfaP
namespace Go.Proofs.Ytnoekbgmhnhneaa
open Go.RowKit

set_option maxHeartbeats 4000000 in
theorem sNode (xk : Int) (xs : ByteArray) (xa xb n : Int) (w : World) (h0 : 0 ≤ n) (h1 : n ≤ 1073741824) (hx : xs.size ≤ 9223372036854775807) :
    Calls Try.prog 69 #[.agg #[.int .i64 xk, .string xs, .int .i64 xa, .int .i64 xb], .int .i64 n] w fun e w' => e = .returned (.bool (nodeB n (xk, xs, xa, xb))) ∧ Below w.heap.size w w' := by
  have ew : IntKind.i64.wrap (n - 1) = n - 1 := IntWalk.i64_in _ (by omega)
  by_cases n1 : xk = 1
  · subst n1
    have u1 := fun w => sIn xa 0 (n - 1) w
    obtain ⟨u, hu⟩ : ∃ u, inI xa 0 (n - 1) = u := ⟨_, rfl⟩
    rw [hu] at u1
    have UC := Lib.hid u1
    clear u1
    cases u
    · skip
      have HV := Lib.hid (show nodeB n (_, xs, xa, xb) = false from by rw [nd_byte, hu]; rfl)
      go_enter Try.func69, Try.ntmps69
      go_wp2_with fail
      refine (UC.out _).mono ?_; rintro e u1 ⟨rfl, rfl⟩
      go_wp2_with fail
      go_ret
      exact ⟨ret_bool (by rw [HV.out]; first | done | exact decide_eq_false (by omega)), by repeat (first | exact Below.refl _ _ | refine bl_drewN ?_ _ | refine Below.drew ?_ | refine bl_alloc ?_ _ | refine bl_set ?_ (by simp) _ | refine bl_trans ?_ (by assumption))⟩
    · skip
      cases hb : (xb == 0)
      · skip
        have HV := Lib.hid (show nodeB n (_, xs, xa, xb) = false from by rw [nd_byte, hu, hb]; rfl)
        go_enter Try.func69, Try.ntmps69
        go_wp2_with fail
        refine (UC.out _).mono ?_; rintro e u1 ⟨rfl, rfl⟩
        go_wp2_with fail
        go_ret
        exact ⟨ret_bool (by rw [HV.out]; first | done | exact decide_eq_false (by omega)), by repeat (first | exact Below.refl _ _ | refine bl_drewN ?_ _ | refine Below.drew ?_ | refine bl_alloc ?_ _ | refine bl_set ?_ (by simp) _ | refine bl_trans ?_ (by assumption))⟩
      · skip
        by_cases hs1 : xs.size = 1
        · have gs : ((xs.size : Int) == 1) = true := by simp [hs1]
          have gs' : (xs.size == 1) = true := by simp [hs1]
          have HS1 := Lib.hid hs1
          clear hs1
          have HV := Lib.hid (show nodeB n (_, xs, xa, xb) = true from by rw [nd_byte, hu, hb, gs']; rfl)
          go_enter Try.func69, Try.ntmps69
          go_wp2_with fail
          refine (UC.out _).mono ?_; rintro e u1 ⟨rfl, rfl⟩
          go_wp2_with fail
          go_ret
          exact ⟨ret_bool (by rw [HV.out]; first | done | exact decide_eq_false (by omega)), by repeat (first | exact Below.refl _ _ | refine bl_drewN ?_ _ | refine Below.drew ?_ | refine bl_alloc ?_ _ | refine bl_set ?_ (by simp) _ | refine bl_trans ?_ (by assumption))⟩
        · have gs : ((xs.size : Int) == 1) = false := beq_eq_false_iff_ne.2 (by omega)
          have gs' : (xs.size == 1) = false := by simp [hs1]
          have HV := Lib.hid (show nodeB n (_, xs, xa, xb) = false from by rw [nd_byte, hu, hb, gs']; rfl)
          go_enter Try.func69, Try.ntmps69
          go_wp2_with fail
          refine (UC.out _).mono ?_; rintro e u1 ⟨rfl, rfl⟩
          go_wp2_with fail
          go_ret
          exact ⟨ret_bool (by rw [HV.out]; first | done | exact decide_eq_false (by omega)), by repeat (first | exact Below.refl _ _ | refine bl_drewN ?_ _ | refine Below.drew ?_ | refine bl_alloc ?_ _ | refine bl_set ?_ (by simp) _ | refine bl_trans ?_ (by assumption))⟩
  have m1 : (xk == 1) = false := by simp [n1]
  by_cases n3 : xk = 3
  · subst n3
    have u1 := fun w => sIn xa 0 (n - 1) w
    obtain ⟨u, hu⟩ : ∃ u, inI xa 0 (n - 1) = u := ⟨_, rfl⟩
    rw [hu] at u1
    have UC := Lib.hid u1
    clear u1
    cases u
    · skip
      have HV := Lib.hid (show nodeB n (_, xs, xa, xb) = false from by rw [nd_set, hu]; rfl)
      go_enter Try.func69, Try.ntmps69
      go_wp2_with fail
      refine (UC.out _).mono ?_; rintro e u1 ⟨rfl, rfl⟩
      go_wp2_with fail
      go_ret
      exact ⟨ret_bool (by rw [HV.out]; first | done | exact decide_eq_false (by omega)), by repeat (first | exact Below.refl _ _ | refine bl_drewN ?_ _ | refine Below.drew ?_ | refine bl_alloc ?_ _ | refine bl_set ?_ (by simp) _ | refine bl_trans ?_ (by assumption))⟩
    · skip
      cases hb : (xb == 0)
      · skip
        have HV := Lib.hid (show nodeB n (_, xs, xa, xb) = false from by rw [nd_set, hu, hb]; rfl)
        go_enter Try.func69, Try.ntmps69
        go_wp2_with fail
        refine (UC.out _).mono ?_; rintro e u1 ⟨rfl, rfl⟩
        go_wp2_with fail
        go_ret
        exact ⟨ret_bool (by rw [HV.out]; first | done | exact decide_eq_false (by omega)), by repeat (first | exact Below.refl _ _ | refine bl_drewN ?_ _ | refine Below.drew ?_ | refine bl_alloc ?_ _ | refine bl_set ?_ (by simp) _ | refine bl_trans ?_ (by assumption))⟩
      · skip
        cases he : xs.toList.isEmpty
        · skip
          have hz1 : (1 : Int) ≤ xs.size := by have := full_size he; omega
          have hz2 : 1 ≤ xs.size := by omega
          have HV := Lib.hid (show nodeB n (_, xs, xa, xb) = true from by rw [nd_set, hu, hb, he]; rfl)
          go_enter Try.func69, Try.ntmps69
          go_wp2_with fail
          refine (UC.out _).mono ?_; rintro e u1 ⟨rfl, rfl⟩
          go_wp2_with fail
          go_ret
          exact ⟨ret_bool (by rw [HV.out]; first | done | exact decide_eq_false (by omega)), by repeat (first | exact Below.refl _ _ | refine bl_drewN ?_ _ | refine Below.drew ?_ | refine bl_alloc ?_ _ | refine bl_set ?_ (by simp) _ | refine bl_trans ?_ (by assumption))⟩
        · skip
          have hz1 : ¬ (1 : Int) ≤ xs.size := by have := emp_size he; omega
          have hz2 : ¬ 1 ≤ xs.size := by omega
          have HV := Lib.hid (show nodeB n (_, xs, xa, xb) = false from by rw [nd_set, hu, hb, he]; rfl)
          go_enter Try.func69, Try.ntmps69
          go_wp2_with fail
          refine (UC.out _).mono ?_; rintro e u1 ⟨rfl, rfl⟩
          go_wp2_with fail
          go_ret
          exact ⟨ret_bool (by rw [HV.out]; first | done | exact decide_eq_false (by omega)), by repeat (first | exact Below.refl _ _ | refine bl_drewN ?_ _ | refine Below.drew ?_ | refine bl_alloc ?_ _ | refine bl_set ?_ (by simp) _ | refine bl_trans ?_ (by assumption))⟩
  have m3 : (xk == 3) = false := by simp [n3]
  by_cases n2 : xk = 2
  · subst n2
    have u1 := fun w => sIn xa 0 (n - 1) w
    obtain ⟨u, hu⟩ : ∃ u, inI xa 0 (n - 1) = u := ⟨_, rfl⟩
    rw [hu] at u1
    have UC := Lib.hid u1
    clear u1
    cases u
    · skip
      have HV := Lib.hid (show nodeB n (_, xs, xa, xb) = false from by rw [nd_leaf (k := 2) (by simp), hu]; rfl)
      go_enter Try.func69, Try.ntmps69
      go_wp2_with fail
      refine (UC.out _).mono ?_; rintro e u1 ⟨rfl, rfl⟩
      go_wp2_with fail
      go_ret
      exact ⟨ret_bool (by rw [HV.out]; first | done | exact decide_eq_false (by omega)), by repeat (first | exact Below.refl _ _ | refine bl_drewN ?_ _ | refine Below.drew ?_ | refine bl_alloc ?_ _ | refine bl_set ?_ (by simp) _ | refine bl_trans ?_ (by assumption))⟩
    · skip
      cases hb : (xb == 0)
      · skip
        have HV := Lib.hid (show nodeB n (_, xs, xa, xb) = false from by rw [nd_leaf (k := 2) (by simp), hu, hb]; rfl)
        go_enter Try.func69, Try.ntmps69
        go_wp2_with fail
        refine (UC.out _).mono ?_; rintro e u1 ⟨rfl, rfl⟩
        go_wp2_with fail
        go_ret
        exact ⟨ret_bool (by rw [HV.out]; first | done | exact decide_eq_false (by omega)), by repeat (first | exact Below.refl _ _ | refine bl_drewN ?_ _ | refine Below.drew ?_ | refine bl_alloc ?_ _ | refine bl_set ?_ (by simp) _ | refine bl_trans ?_ (by assumption))⟩
      · skip
        cases he : xs.toList.isEmpty
        · skip
          have HV := Lib.hid (show nodeB n (_, xs, xa, xb) = false from by rw [nd_leaf (k := 2) (by simp), hu, hb, he]; rfl)
          go_enter Try.func69, Try.ntmps69
          go_wp2_with fail
          refine (UC.out _).mono ?_; rintro e u1 ⟨rfl, rfl⟩
          go_wp2_with fail
          go_ret
          exact ⟨ret_bool (by rw [HV.out]; first | done | exact decide_eq_false (by omega)), by repeat (first | exact Below.refl _ _ | refine bl_drewN ?_ _ | refine Below.drew ?_ | refine bl_alloc ?_ _ | refine bl_set ?_ (by simp) _ | refine bl_trans ?_ (by assumption))⟩
        · skip
          have HV := Lib.hid (show nodeB n (_, xs, xa, xb) = true from by rw [nd_leaf (k := 2) (by simp), hu, hb, he]; rfl)
          go_enter Try.func69, Try.ntmps69
          go_wp2_with fail
          refine (UC.out _).mono ?_; rintro e u1 ⟨rfl, rfl⟩
          go_wp2_with fail
          go_ret
          exact ⟨ret_bool (by rw [HV.out]; first | done | exact decide_eq_false (by omega)), by repeat (first | exact Below.refl _ _ | refine bl_drewN ?_ _ | refine Below.drew ?_ | refine bl_alloc ?_ _ | refine bl_set ?_ (by simp) _ | refine bl_trans ?_ (by assumption))⟩
  have m2 : (xk == 2) = false := by simp [n2]
  by_cases n5 : xk = 5
  · subst n5
    have u1 := fun w => sIn xa 0 (n - 1) w
    obtain ⟨u, hu⟩ : ∃ u, inI xa 0 (n - 1) = u := ⟨_, rfl⟩
    rw [hu] at u1
    have UC := Lib.hid u1
    clear u1
    cases u
    · skip
      have HV := Lib.hid (show nodeB n (_, xs, xa, xb) = false from by rw [nd_leaf (k := 5) (by simp), hu]; rfl)
      go_enter Try.func69, Try.ntmps69
      go_wp2_with fail
      refine (UC.out _).mono ?_; rintro e u1 ⟨rfl, rfl⟩
      go_wp2_with fail
      go_ret
      exact ⟨ret_bool (by rw [HV.out]; first | done | exact decide_eq_false (by omega)), by repeat (first | exact Below.refl _ _ | refine bl_drewN ?_ _ | refine Below.drew ?_ | refine bl_alloc ?_ _ | refine bl_set ?_ (by simp) _ | refine bl_trans ?_ (by assumption))⟩
    · skip
      cases hb : (xb == 0)
      · skip
        have HV := Lib.hid (show nodeB n (_, xs, xa, xb) = false from by rw [nd_leaf (k := 5) (by simp), hu, hb]; rfl)
        go_enter Try.func69, Try.ntmps69
        go_wp2_with fail
        refine (UC.out _).mono ?_; rintro e u1 ⟨rfl, rfl⟩
        go_wp2_with fail
        go_ret
        exact ⟨ret_bool (by rw [HV.out]; first | done | exact decide_eq_false (by omega)), by repeat (first | exact Below.refl _ _ | refine bl_drewN ?_ _ | refine Below.drew ?_ | refine bl_alloc ?_ _ | refine bl_set ?_ (by simp) _ | refine bl_trans ?_ (by assumption))⟩
      · skip
        cases he : xs.toList.isEmpty
        · skip
          have HV := Lib.hid (show nodeB n (_, xs, xa, xb) = false from by rw [nd_leaf (k := 5) (by simp), hu, hb, he]; rfl)
          go_enter Try.func69, Try.ntmps69
          go_wp2_with fail
          refine (UC.out _).mono ?_; rintro e u1 ⟨rfl, rfl⟩
          go_wp2_with fail
          go_ret
          exact ⟨ret_bool (by rw [HV.out]; first | done | exact decide_eq_false (by omega)), by repeat (first | exact Below.refl _ _ | refine bl_drewN ?_ _ | refine Below.drew ?_ | refine bl_alloc ?_ _ | refine bl_set ?_ (by simp) _ | refine bl_trans ?_ (by assumption))⟩
        · skip
          have HV := Lib.hid (show nodeB n (_, xs, xa, xb) = true from by rw [nd_leaf (k := 5) (by simp), hu, hb, he]; rfl)
          go_enter Try.func69, Try.ntmps69
          go_wp2_with fail
          refine (UC.out _).mono ?_; rintro e u1 ⟨rfl, rfl⟩
          go_wp2_with fail
          go_ret
          exact ⟨ret_bool (by rw [HV.out]; first | done | exact decide_eq_false (by omega)), by repeat (first | exact Below.refl _ _ | refine bl_drewN ?_ _ | refine Below.drew ?_ | refine bl_alloc ?_ _ | refine bl_set ?_ (by simp) _ | refine bl_trans ?_ (by assumption))⟩
  have m5 : (xk == 5) = false := by simp [n5]
  by_cases n6 : xk = 6
  · subst n6
    have u1 := fun w => sIn xa 0 (n - 1) w
    obtain ⟨u, hu⟩ : ∃ u, inI xa 0 (n - 1) = u := ⟨_, rfl⟩
    rw [hu] at u1
    have UC := Lib.hid u1
    clear u1
    cases u
    · skip
      have HV := Lib.hid (show nodeB n (_, xs, xa, xb) = false from by rw [nd_leaf (k := 6) (by simp), hu]; rfl)
      go_enter Try.func69, Try.ntmps69
      go_wp2_with fail
      refine (UC.out _).mono ?_; rintro e u1 ⟨rfl, rfl⟩
      go_wp2_with fail
      go_ret
      exact ⟨ret_bool (by rw [HV.out]; first | done | exact decide_eq_false (by omega)), by repeat (first | exact Below.refl _ _ | refine bl_drewN ?_ _ | refine Below.drew ?_ | refine bl_alloc ?_ _ | refine bl_set ?_ (by simp) _ | refine bl_trans ?_ (by assumption))⟩
    · skip
      cases hb : (xb == 0)
      · skip
        have HV := Lib.hid (show nodeB n (_, xs, xa, xb) = false from by rw [nd_leaf (k := 6) (by simp), hu, hb]; rfl)
        go_enter Try.func69, Try.ntmps69
        go_wp2_with fail
        refine (UC.out _).mono ?_; rintro e u1 ⟨rfl, rfl⟩
        go_wp2_with fail
        go_ret
        exact ⟨ret_bool (by rw [HV.out]; first | done | exact decide_eq_false (by omega)), by repeat (first | exact Below.refl _ _ | refine bl_drewN ?_ _ | refine Below.drew ?_ | refine bl_alloc ?_ _ | refine bl_set ?_ (by simp) _ | refine bl_trans ?_ (by assumption))⟩
      · skip
        cases he : xs.toList.isEmpty
        · skip
          have HV := Lib.hid (show nodeB n (_, xs, xa, xb) = false from by rw [nd_leaf (k := 6) (by simp), hu, hb, he]; rfl)
          go_enter Try.func69, Try.ntmps69
          go_wp2_with fail
          refine (UC.out _).mono ?_; rintro e u1 ⟨rfl, rfl⟩
          go_wp2_with fail
          go_ret
          exact ⟨ret_bool (by rw [HV.out]; first | done | exact decide_eq_false (by omega)), by repeat (first | exact Below.refl _ _ | refine bl_drewN ?_ _ | refine Below.drew ?_ | refine bl_alloc ?_ _ | refine bl_set ?_ (by simp) _ | refine bl_trans ?_ (by assumption))⟩
        · skip
          have HV := Lib.hid (show nodeB n (_, xs, xa, xb) = true from by rw [nd_leaf (k := 6) (by simp), hu, hb, he]; rfl)
          go_enter Try.func69, Try.ntmps69
          go_wp2_with fail
          refine (UC.out _).mono ?_; rintro e u1 ⟨rfl, rfl⟩
          go_wp2_with fail
          go_ret
          exact ⟨ret_bool (by rw [HV.out]; first | done | exact decide_eq_false (by omega)), by repeat (first | exact Below.refl _ _ | refine bl_drewN ?_ _ | refine Below.drew ?_ | refine bl_alloc ?_ _ | refine bl_set ?_ (by simp) _ | refine bl_trans ?_ (by assumption))⟩
  have m6 : (xk == 6) = false := by simp [n6]
  by_cases n4 : xk = 4
  · subst n4
    have u1 := fun w => sIn xa 0 (n - 1) w
    obtain ⟨u, hu⟩ : ∃ u, inI xa 0 (n - 1) = u := ⟨_, rfl⟩
    rw [hu] at u1
    have UC := Lib.hid u1
    clear u1
    cases u
    · skip
      have HV := Lib.hid (show nodeB n (_, xs, xa, xb) = false from by rw [nd_split, hu]; rfl)
      go_enter Try.func69, Try.ntmps69
      go_wp2_with fail
      refine (UC.out _).mono ?_; rintro e u1 ⟨rfl, rfl⟩
      go_wp2_with fail
      go_ret
      exact ⟨ret_bool (by rw [HV.out]; first | done | exact decide_eq_false (by omega)), by repeat (first | exact Below.refl _ _ | refine bl_drewN ?_ _ | refine Below.drew ?_ | refine bl_alloc ?_ _ | refine bl_set ?_ (by simp) _ | refine bl_trans ?_ (by assumption))⟩
    · skip
      have v1 := fun w => sIn xb 0 (n - 1) w
      obtain ⟨v, hv⟩ : ∃ v, inI xb 0 (n - 1) = v := ⟨_, rfl⟩
      rw [hv] at v1
      have VC := Lib.hid v1
      clear v1
      cases v
      · skip
        have HV := Lib.hid (show nodeB n (_, xs, xa, xb) = false from by rw [nd_split, hu, hv]; rfl)
        go_enter Try.func69, Try.ntmps69
        go_wp2_with fail
        refine (UC.out _).mono ?_; rintro e u1 ⟨rfl, rfl⟩
        go_wp2_with fail
        refine (VC.out _).mono ?_; rintro e u1 ⟨rfl, rfl⟩
        go_wp2_with fail
        go_ret
        exact ⟨ret_bool (by rw [HV.out]; first | done | exact decide_eq_false (by omega)), by repeat (first | exact Below.refl _ _ | refine bl_drewN ?_ _ | refine Below.drew ?_ | refine bl_alloc ?_ _ | refine bl_set ?_ (by simp) _ | refine bl_trans ?_ (by assumption))⟩
      · skip
        cases he : xs.toList.isEmpty
        · skip
          have HV := Lib.hid (show nodeB n (_, xs, xa, xb) = false from by rw [nd_split, hu, hv, he]; rfl)
          go_enter Try.func69, Try.ntmps69
          go_wp2_with fail
          refine (UC.out _).mono ?_; rintro e u1 ⟨rfl, rfl⟩
          go_wp2_with fail
          refine (VC.out _).mono ?_; rintro e u1 ⟨rfl, rfl⟩
          go_wp2_with fail
          go_ret
          exact ⟨ret_bool (by rw [HV.out]; first | done | exact decide_eq_false (by omega)), by repeat (first | exact Below.refl _ _ | refine bl_drewN ?_ _ | refine Below.drew ?_ | refine bl_alloc ?_ _ | refine bl_set ?_ (by simp) _ | refine bl_trans ?_ (by assumption))⟩
        · skip
          have HV := Lib.hid (show nodeB n (_, xs, xa, xb) = true from by rw [nd_split, hu, hv, he]; rfl)
          go_enter Try.func69, Try.ntmps69
          go_wp2_with fail
          refine (UC.out _).mono ?_; rintro e u1 ⟨rfl, rfl⟩
          go_wp2_with fail
          refine (VC.out _).mono ?_; rintro e u1 ⟨rfl, rfl⟩
          go_wp2_with fail
          go_ret
          exact ⟨ret_bool (by rw [HV.out]; first | done | exact decide_eq_false (by omega)), by repeat (first | exact Below.refl _ _ | refine bl_drewN ?_ _ | refine Below.drew ?_ | refine bl_alloc ?_ _ | refine bl_set ?_ (by simp) _ | refine bl_trans ?_ (by assumption))⟩
  have m4 : (xk == 4) = false := by simp [n4]
  have hE := nd_else (by intro j hj; simp only [List.mem_cons, List.not_mem_nil, or_false] at hj; rcases hj with rfl | rfl | rfl | rfl | rfl | rfl <;> assumption) n xs xa xb
  have u1 := fun w => sIn xa 0 (n - 1) w
  obtain ⟨u, hu⟩ : ∃ u, inI xa 0 (n - 1) = u := ⟨_, rfl⟩
  rw [hu] at u1
  have UC := Lib.hid u1
  have UC := Lib.hid u1
  clear u1
  cases h7 : (xk == 7)
  · skip
    have HV := Lib.hid (show nodeB n (_, xs, xa, xb) = false from by rw [hE, h7]; rfl)
    go_enter Try.func69, Try.ntmps69
    go_wp2_with fail
    refine (UC.out _).mono ?_; rintro e u1 ⟨rfl, rfl⟩
    go_wp2_with fail
    go_ret
    exact ⟨ret_bool (by rw [HV.out]; first | done | exact decide_eq_false (by omega)), by repeat (first | exact Below.refl _ _ | refine bl_drewN ?_ _ | refine Below.drew ?_ | refine bl_alloc ?_ _ | refine bl_set ?_ (by simp) _ | refine bl_trans ?_ (by assumption))⟩
  · skip
    cases ha : (xa == 0)
    · skip
      have HV := Lib.hid (show nodeB n (_, xs, xa, xb) = false from by rw [hE, h7, ha]; rfl)
      go_enter Try.func69, Try.ntmps69
      go_wp2_with fail
      refine (UC.out _).mono ?_; rintro e u1 ⟨rfl, rfl⟩
      go_wp2_with fail
      go_ret
      exact ⟨ret_bool (by rw [HV.out]; first | done | exact decide_eq_false (by omega)), by repeat (first | exact Below.refl _ _ | refine bl_drewN ?_ _ | refine Below.drew ?_ | refine bl_alloc ?_ _ | refine bl_set ?_ (by simp) _ | refine bl_trans ?_ (by assumption))⟩
    · skip
      cases hb : (xb == 0)
      · skip
        have HV := Lib.hid (show nodeB n (_, xs, xa, xb) = false from by rw [hE, h7, ha, hb]; rfl)
        go_enter Try.func69, Try.ntmps69
        go_wp2_with fail
        refine (UC.out _).mono ?_; rintro e u1 ⟨rfl, rfl⟩
        go_wp2_with fail
        go_ret
        exact ⟨ret_bool (by rw [HV.out]; first | done | exact decide_eq_false (by omega)), by repeat (first | exact Below.refl _ _ | refine bl_drewN ?_ _ | refine Below.drew ?_ | refine bl_alloc ?_ _ | refine bl_set ?_ (by simp) _ | refine bl_trans ?_ (by assumption))⟩
      · skip
        cases he : xs.toList.isEmpty
        · skip
          have HV := Lib.hid (show nodeB n (_, xs, xa, xb) = false from by rw [hE, h7, ha, hb, he]; rfl)
          go_enter Try.func69, Try.ntmps69
          go_wp2_with fail
          refine (UC.out _).mono ?_; rintro e u1 ⟨rfl, rfl⟩
          go_wp2_with fail
          go_ret
          exact ⟨ret_bool (by rw [HV.out]; first | done | exact decide_eq_false (by omega)), by repeat (first | exact Below.refl _ _ | refine bl_drewN ?_ _ | refine Below.drew ?_ | refine bl_alloc ?_ _ | refine bl_set ?_ (by simp) _ | refine bl_trans ?_ (by assumption))⟩
        · skip
          have HV := Lib.hid (show nodeB n (_, xs, xa, xb) = true from by rw [hE, h7, ha, hb, he]; rfl)
          go_enter Try.func69, Try.ntmps69
          go_wp2_with fail
          refine (UC.out _).mono ?_; rintro e u1 ⟨rfl, rfl⟩
          go_wp2_with fail
          go_ret
          exact ⟨ret_bool (by rw [HV.out]; first | done | exact decide_eq_false (by omega)), by repeat (first | exact Below.refl _ _ | refine bl_drewN ?_ _ | refine Below.drew ?_ | refine bl_alloc ?_ _ | refine bl_set ?_ (by simp) _ | refine bl_trans ?_ (by assumption))⟩

end Go.Proofs.Ytnoekbgmhnhneaa
