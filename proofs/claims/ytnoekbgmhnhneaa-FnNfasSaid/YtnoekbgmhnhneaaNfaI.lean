/- Walk over the program's NfaOk: is a machine right. It has at most 1048576 nodes. -/
import Derived.Test.YtnoekbgmhnhneaaNfaP
import Derived.Test.YtnoekbgmhnhneaaNfaB
import Derived.Test.YtnoekbgmhnhneaaQ0
namespace Go.Proofs.Ytnoekbgmhnhneaa
open Go.RowKit

set_option maxRecDepth 20000 in
set_option maxHeartbeats 8000000 in
theorem iNfaOk (A : Option Addr) (c : Nat) (zs : List (Int × ByteArray × Int × Int)) (w : World) (hR : Reads w w.heap.size 4 A zs.length (flat nodeC zs)) (hx : ∀ z ∈ zs, z.2.1.size ≤ 9223372036854775807) (hn : zs.length ≤ 1048576) : Calls Try.prog 33 #[.agg #[.slice A zs.length c]] w fun e w' => e = .returned (.bool (nfaB zs)) ∧ Below w.heap.size w w' := by
  have B := Blk.new w 30 #[.slice A zs.length c]
  have L0 := bl_alloc (Below.refl w.heap.size w) (.cells #[.slice A zs.length c] 30)
  obtain ⟨n, hnn⟩ : ∃ n : Int, (zs.length : Int) = n := ⟨_, rfl⟩
  obtain ⟨R, hRR⟩ : ∃ R, zs.all (nodeB n) = R := ⟨_, rfl⟩
  have hnfa : nfaB zs = (R && (inI n 1 300 && lastB zs)) := by unfold nfaB; rw [hnn, hRR]
  rw [hnfa]
  have HR := Lib.hid hRR
  have HX := Lib.hid hx
  clear hRR hx hnfa
  subst hnn
  obtain ⟨i, hi⟩ : ∃ i, inI zs.length 1 300 = i := ⟨_, rfl⟩
  obtain ⟨l, hl⟩ : ∃ l, lastB zs = l := ⟨_, rfl⟩
  rw [hi, hl]
  have cI := fun w => iWithin zs.length 1 300 w
  rw [hi] at cI
  have CI := Lib.hid cI
  clear cI
  cases i
  · rw [Bool.false_and, Bool.and_false]
    go_enter Try.func33, Try.ntmps33
    go_wp2_with fail
    refine (CI.out _).mono ?_; rintro e w1 ⟨rfl, rfl⟩
    go_wp2_with fail
    go_ret
    exact ⟨rfl, L0⟩
  · have hlen : 0 < zs.length := by have := inI_iff.1 hi; omega
    obtain ⟨b, off, rfl, hb, q0, q1, q2, q3⟩ := rd_node (hR.below L0) (i := zs.length - 1) (by omega)
    have hl7 := lastB_is hlen
    have e1 : ((zs.length : Int) - 1).toNat = zs.length - 1 := by omega
    have e0 : (0 : Int) ≤ (zs.length : Int) - 1 := by omega
    have e2 : (1 : Int) ≤ zs.length := by omega
    have e3 : 1 ≤ zs.length := hlen
    have ew : IntKind.i64.wrap ((zs.length : Int) - 1) = (zs.length : Int) - 1 := IntWalk.i64_in _ (by omega)
    have e5 : (zs.length : Int) - 1 < zs.length := by omega
    generalize (zs[zs.length - 1]'(by omega)).1 = lk at q0 hl7
    clear q1 q2 q3
    rw [hl] at hl7
    cases l
    · have h7 : (lk != 7) = true := by rw [bne, ← hl7]; rfl
      rw [Bool.and_false, Bool.and_false]
      clear hl7 hl hi
      go_enter Try.func33, Try.ntmps33
      go_wp2_with fail
      refine (CI.out _).mono ?_; rintro e w1 ⟨rfl, rfl⟩
      go_wp2_with fail
      go_ret
      exact ⟨rfl, L0⟩
    have h7 : (lk != 7) = false := by rw [bne, ← hl7]; rfl
    rw [Bool.and_true, Bool.and_true]
    clear hl7 hl hi
    go_enter Try.func33, Try.ntmps33
    go_wp2_with fail
    refine (CI.out _).mono ?_; rintro e w1 ⟨rfl, rfl⟩
    go_wp2_with fail
    clear q0 h7
    go_loopw [26] (fun i wr => ∃ k : Nat, k ≤ zs.length ∧ i = .int .i64 k ∧ (zs.drop k).all (nodeB zs.length) = R ∧ Below w.heap.size w wr) (fun i _ => zs.length - (intOf i).toNat)
    case atStart => exact ⟨0, Nat.zero_le _, rfl, by rw [List.drop_zero]; exact HR.out, L0⟩
    case round =>
      obtain ⟨k, hk, rfl, hE, hL⟩ := hrel
      by_cases hlt : k < zs.length
      · obtain ⟨b', off', hAe, hb', q0, q1, q2, q3⟩ := rd_node (hR.below hL) hlt
        injection hAe with hAe
        injection hAe with hA1 hA2 hA3
        subst hA1 hA2
        have hlt' : (k : Int) < (zs.length : Int) := by omega
        have hz := HX.out _ (List.getElem_mem hlt)
        rw [all_step hlt] at hE
        have hn9 : (zs.length : Int) ≤ 1048576 := by omega
        generalize zs[k] = z at q0 q1 q2 q3 hz hE
        obtain ⟨xk, xs, xa, xb⟩ := z
        have HE := Lib.hid hE
        clear hE HR
        simp only at q0 q1 q2 q3 hz
        by_cases n1 : xk = 1
        · subst n1
          have u1 := fun w => iWithin xa 0 ((zs.length : Int) - 1) w
          obtain ⟨u, hu⟩ : ∃ u, inI xa 0 ((zs.length : Int) - 1) = u := ⟨_, rfl⟩
          rw [hu] at u1
          have UC := Lib.hid u1
          clear u1
          cases u
          · skip
            have HV := Lib.hid (show nodeB zs.length (_, xs, xa, xb) = false from by rw [nd_byte, hu]; rfl)
            go_wp2_with fail
            refine (UC.out _).mono ?_; rintro e u1 ⟨rfl, rfl⟩
            go_wp2_with fail
            go_ret
            exact ⟨ret_bool (by have h := HE.out; rw [HV.out] at h; exact h), bl_alloc hL _⟩
          · skip
            by_cases hs1 : xs.size = 1
            · have gs : ((xs.size : Int) == 1) = true := by simp [hs1]
              have gs' : (xs.size == 1) = true := by simp [hs1]
              have HS1 := Lib.hid hs1
              clear hs1
              cases hb : (xb == 0)
              · skip
                have HV := Lib.hid (show nodeB zs.length (_, xs, xa, xb) = false from by rw [nd_byte, hu, hb]; rfl)
                go_wp2_with fail
                refine (UC.out _).mono ?_; rintro e u1 ⟨rfl, rfl⟩
                go_wp2_with fail
                go_ret
                exact ⟨ret_bool (by have h := HE.out; rw [HV.out] at h; exact h), bl_alloc hL _⟩
              · skip
                have HV := Lib.hid (show nodeB zs.length (_, xs, xa, xb) = true from by rw [nd_byte, hu, hb, gs']; rfl)
                go_wp2_with fail
                refine (UC.out _).mono ?_; rintro e u1 ⟨rfl, rfl⟩
                go_wp2_with fail
                go_roundw
                case rel => exact ⟨k + 1, by omega, by go_num, by have h := HE.out; rw [HV.out, Bool.true_and] at h; exact h, bl_alloc hL _⟩
                case measure => simp [intOf]; omega
            · have gs : ((xs.size : Int) == 1) = false := beq_eq_false_iff_ne.2 (by omega)
              have gs' : (xs.size == 1) = false := by simp [hs1]
              have HV := Lib.hid (show nodeB zs.length (_, xs, xa, xb) = false from by rw [nd_byte, hu, gs']; simp)
              go_wp2_with fail
              refine (UC.out _).mono ?_; rintro e u1 ⟨rfl, rfl⟩
              go_wp2_with fail
              go_ret
              exact ⟨ret_bool (by have h := HE.out; rw [HV.out] at h; exact h), bl_alloc hL _⟩
        have m1 : (xk == 1) = false := by simp [n1]
        by_cases n3 : xk = 3
        · subst n3
          have u1 := fun w => iWithin xa 0 ((zs.length : Int) - 1) w
          obtain ⟨u, hu⟩ : ∃ u, inI xa 0 ((zs.length : Int) - 1) = u := ⟨_, rfl⟩
          rw [hu] at u1
          have UC := Lib.hid u1
          clear u1
          cases u
          · skip
            have HV := Lib.hid (show nodeB zs.length (_, xs, xa, xb) = false from by rw [nd_set, hu]; rfl)
            go_wp2_with fail
            refine (UC.out _).mono ?_; rintro e u1 ⟨rfl, rfl⟩
            go_wp2_with fail
            go_ret
            exact ⟨ret_bool (by have h := HE.out; rw [HV.out] at h; exact h), bl_alloc hL _⟩
          · skip
            cases he : xs.toList.isEmpty
            · skip
              have hz1 : (1 : Int) ≤ xs.size := by have := full_size he; omega
              have hz2 : 1 ≤ xs.size := by omega
              cases hb : (xb == 0)
              · skip
                have HV := Lib.hid (show nodeB zs.length (_, xs, xa, xb) = false from by rw [nd_set, hu, hb]; rfl)
                go_wp2_with fail
                refine (UC.out _).mono ?_; rintro e u1 ⟨rfl, rfl⟩
                go_wp2_with fail
                go_ret
                exact ⟨ret_bool (by have h := HE.out; rw [HV.out] at h; exact h), bl_alloc hL _⟩
              · skip
                have HV := Lib.hid (show nodeB zs.length (_, xs, xa, xb) = true from by rw [nd_set, hu, hb, he]; rfl)
                go_wp2_with fail
                refine (UC.out _).mono ?_; rintro e u1 ⟨rfl, rfl⟩
                go_wp2_with fail
                go_roundw
                case rel => exact ⟨k + 1, by omega, by go_num, by have h := HE.out; rw [HV.out, Bool.true_and] at h; exact h, bl_alloc hL _⟩
                case measure => simp [intOf]; omega
            · skip
              have hz1 : ¬ (1 : Int) ≤ xs.size := by have := emp_size he; omega
              have hz2 : ¬ 1 ≤ xs.size := by omega
              have HV := Lib.hid (show nodeB zs.length (_, xs, xa, xb) = false from by rw [nd_set, hu, he]; simp)
              go_wp2_with fail
              refine (UC.out _).mono ?_; rintro e u1 ⟨rfl, rfl⟩
              go_wp2_with fail
              go_ret
              exact ⟨ret_bool (by have h := HE.out; rw [HV.out] at h; exact h), bl_alloc hL _⟩
        have m3 : (xk == 3) = false := by simp [n3]
        by_cases n2 : xk = 2
        · subst n2
          have u1 := fun w => iWithin xa 0 ((zs.length : Int) - 1) w
          obtain ⟨u, hu⟩ : ∃ u, inI xa 0 ((zs.length : Int) - 1) = u := ⟨_, rfl⟩
          rw [hu] at u1
          have UC := Lib.hid u1
          clear u1
          cases u
          · skip
            have HV := Lib.hid (show nodeB zs.length (_, xs, xa, xb) = false from by rw [nd_leaf (k := 2) (by simp), hu]; rfl)
            go_wp2_with fail
            refine (UC.out _).mono ?_; rintro e u1 ⟨rfl, rfl⟩
            go_wp2_with fail
            go_ret
            exact ⟨ret_bool (by have h := HE.out; rw [HV.out] at h; exact h), bl_alloc hL _⟩
          · skip
            cases he : xs.toList.isEmpty
            · skip
              have HV := Lib.hid (show nodeB zs.length (_, xs, xa, xb) = false from by rw [nd_leaf (k := 2) (by simp), hu, he]; simp)
              go_wp2_with fail
              refine (UC.out _).mono ?_; rintro e u1 ⟨rfl, rfl⟩
              go_wp2_with fail
              go_ret
              exact ⟨ret_bool (by have h := HE.out; rw [HV.out] at h; exact h), bl_alloc hL _⟩
            · skip
              cases hb : (xb == 0)
              · skip
                have HV := Lib.hid (show nodeB zs.length (_, xs, xa, xb) = false from by rw [nd_leaf (k := 2) (by simp), hu, hb]; rfl)
                go_wp2_with fail
                refine (UC.out _).mono ?_; rintro e u1 ⟨rfl, rfl⟩
                go_wp2_with fail
                go_ret
                exact ⟨ret_bool (by have h := HE.out; rw [HV.out] at h; exact h), bl_alloc hL _⟩
              · skip
                have HV := Lib.hid (show nodeB zs.length (_, xs, xa, xb) = true from by rw [nd_leaf (k := 2) (by simp), hu, hb, he]; rfl)
                go_wp2_with fail
                refine (UC.out _).mono ?_; rintro e u1 ⟨rfl, rfl⟩
                go_wp2_with fail
                go_roundw
                case rel => exact ⟨k + 1, by omega, by go_num, by have h := HE.out; rw [HV.out, Bool.true_and] at h; exact h, bl_alloc hL _⟩
                case measure => simp [intOf]; omega
        have m2 : (xk == 2) = false := by simp [n2]
        by_cases n5 : xk = 5
        · subst n5
          have u1 := fun w => iWithin xa 0 ((zs.length : Int) - 1) w
          obtain ⟨u, hu⟩ : ∃ u, inI xa 0 ((zs.length : Int) - 1) = u := ⟨_, rfl⟩
          rw [hu] at u1
          have UC := Lib.hid u1
          clear u1
          cases u
          · skip
            have HV := Lib.hid (show nodeB zs.length (_, xs, xa, xb) = false from by rw [nd_leaf (k := 5) (by simp), hu]; rfl)
            go_wp2_with fail
            refine (UC.out _).mono ?_; rintro e u1 ⟨rfl, rfl⟩
            go_wp2_with fail
            go_ret
            exact ⟨ret_bool (by have h := HE.out; rw [HV.out] at h; exact h), bl_alloc hL _⟩
          · skip
            cases he : xs.toList.isEmpty
            · skip
              have HV := Lib.hid (show nodeB zs.length (_, xs, xa, xb) = false from by rw [nd_leaf (k := 5) (by simp), hu, he]; simp)
              go_wp2_with fail
              refine (UC.out _).mono ?_; rintro e u1 ⟨rfl, rfl⟩
              go_wp2_with fail
              go_ret
              exact ⟨ret_bool (by have h := HE.out; rw [HV.out] at h; exact h), bl_alloc hL _⟩
            · skip
              cases hb : (xb == 0)
              · skip
                have HV := Lib.hid (show nodeB zs.length (_, xs, xa, xb) = false from by rw [nd_leaf (k := 5) (by simp), hu, hb]; rfl)
                go_wp2_with fail
                refine (UC.out _).mono ?_; rintro e u1 ⟨rfl, rfl⟩
                go_wp2_with fail
                go_ret
                exact ⟨ret_bool (by have h := HE.out; rw [HV.out] at h; exact h), bl_alloc hL _⟩
              · skip
                have HV := Lib.hid (show nodeB zs.length (_, xs, xa, xb) = true from by rw [nd_leaf (k := 5) (by simp), hu, hb, he]; rfl)
                go_wp2_with fail
                refine (UC.out _).mono ?_; rintro e u1 ⟨rfl, rfl⟩
                go_wp2_with fail
                go_roundw
                case rel => exact ⟨k + 1, by omega, by go_num, by have h := HE.out; rw [HV.out, Bool.true_and] at h; exact h, bl_alloc hL _⟩
                case measure => simp [intOf]; omega
        have m5 : (xk == 5) = false := by simp [n5]
        by_cases n6 : xk = 6
        · subst n6
          have u1 := fun w => iWithin xa 0 ((zs.length : Int) - 1) w
          obtain ⟨u, hu⟩ : ∃ u, inI xa 0 ((zs.length : Int) - 1) = u := ⟨_, rfl⟩
          rw [hu] at u1
          have UC := Lib.hid u1
          clear u1
          cases u
          · skip
            have HV := Lib.hid (show nodeB zs.length (_, xs, xa, xb) = false from by rw [nd_leaf (k := 6) (by simp), hu]; rfl)
            go_wp2_with fail
            refine (UC.out _).mono ?_; rintro e u1 ⟨rfl, rfl⟩
            go_wp2_with fail
            go_ret
            exact ⟨ret_bool (by have h := HE.out; rw [HV.out] at h; exact h), bl_alloc hL _⟩
          · skip
            cases he : xs.toList.isEmpty
            · skip
              have HV := Lib.hid (show nodeB zs.length (_, xs, xa, xb) = false from by rw [nd_leaf (k := 6) (by simp), hu, he]; simp)
              go_wp2_with fail
              refine (UC.out _).mono ?_; rintro e u1 ⟨rfl, rfl⟩
              go_wp2_with fail
              go_ret
              exact ⟨ret_bool (by have h := HE.out; rw [HV.out] at h; exact h), bl_alloc hL _⟩
            · skip
              cases hb : (xb == 0)
              · skip
                have HV := Lib.hid (show nodeB zs.length (_, xs, xa, xb) = false from by rw [nd_leaf (k := 6) (by simp), hu, hb]; rfl)
                go_wp2_with fail
                refine (UC.out _).mono ?_; rintro e u1 ⟨rfl, rfl⟩
                go_wp2_with fail
                go_ret
                exact ⟨ret_bool (by have h := HE.out; rw [HV.out] at h; exact h), bl_alloc hL _⟩
              · skip
                have HV := Lib.hid (show nodeB zs.length (_, xs, xa, xb) = true from by rw [nd_leaf (k := 6) (by simp), hu, hb, he]; rfl)
                go_wp2_with fail
                refine (UC.out _).mono ?_; rintro e u1 ⟨rfl, rfl⟩
                go_wp2_with fail
                go_roundw
                case rel => exact ⟨k + 1, by omega, by go_num, by have h := HE.out; rw [HV.out, Bool.true_and] at h; exact h, bl_alloc hL _⟩
                case measure => simp [intOf]; omega
        have m6 : (xk == 6) = false := by simp [n6]
        by_cases n4 : xk = 4
        · subst n4
          have u1 := fun w => iWithin xa 0 ((zs.length : Int) - 1) w
          obtain ⟨u, hu⟩ : ∃ u, inI xa 0 ((zs.length : Int) - 1) = u := ⟨_, rfl⟩
          rw [hu] at u1
          have UC := Lib.hid u1
          clear u1
          cases u
          · skip
            have HV := Lib.hid (show nodeB zs.length (_, xs, xa, xb) = false from by rw [nd_split, hu]; rfl)
            go_wp2_with fail
            refine (UC.out _).mono ?_; rintro e u1 ⟨rfl, rfl⟩
            go_wp2_with fail
            go_ret
            exact ⟨ret_bool (by have h := HE.out; rw [HV.out] at h; exact h), bl_alloc hL _⟩
          · skip
            have v1 := fun w => iWithin xb 0 ((zs.length : Int) - 1) w
            obtain ⟨v, hv⟩ : ∃ v, inI xb 0 ((zs.length : Int) - 1) = v := ⟨_, rfl⟩
            rw [hv] at v1
            have VC := Lib.hid v1
            clear v1
            cases v
            · skip
              have HV := Lib.hid (show nodeB zs.length (_, xs, xa, xb) = false from by rw [nd_split, hu, hv]; rfl)
              go_wp2_with fail
              refine (UC.out _).mono ?_; rintro e u1 ⟨rfl, rfl⟩
              go_wp2_with fail
              refine (VC.out _).mono ?_; rintro e u1 ⟨rfl, rfl⟩
              go_wp2_with fail
              go_ret
              exact ⟨ret_bool (by have h := HE.out; rw [HV.out] at h; exact h), bl_alloc hL _⟩
            · skip
              cases he : xs.toList.isEmpty
              · skip
                have HV := Lib.hid (show nodeB zs.length (_, xs, xa, xb) = false from by rw [nd_split, hu, hv, he]; rfl)
                go_wp2_with fail
                refine (UC.out _).mono ?_; rintro e u1 ⟨rfl, rfl⟩
                go_wp2_with fail
                refine (VC.out _).mono ?_; rintro e u1 ⟨rfl, rfl⟩
                go_wp2_with fail
                go_ret
                exact ⟨ret_bool (by have h := HE.out; rw [HV.out] at h; exact h), bl_alloc hL _⟩
              · skip
                have HV := Lib.hid (show nodeB zs.length (_, xs, xa, xb) = true from by rw [nd_split, hu, hv, he]; rfl)
                go_wp2_with fail
                refine (UC.out _).mono ?_; rintro e u1 ⟨rfl, rfl⟩
                go_wp2_with fail
                refine (VC.out _).mono ?_; rintro e u1 ⟨rfl, rfl⟩
                go_wp2_with fail
                go_roundw
                case rel => exact ⟨k + 1, by omega, by go_num, by have h := HE.out; rw [HV.out, Bool.true_and] at h; exact h, bl_alloc hL _⟩
                case measure => simp [intOf]; omega
        have m4 : (xk == 4) = false := by simp [n4]
        have hE := nd_else (by intro j hj; simp only [List.mem_cons, List.not_mem_nil, or_false] at hj; rcases hj with rfl | rfl | rfl | rfl | rfl | rfl <;> assumption) zs.length xs xa xb
        have u1 := fun w => iWithin xa 0 ((zs.length : Int) - 1) w
        obtain ⟨u, hu⟩ : ∃ u, inI xa 0 ((zs.length : Int) - 1) = u := ⟨_, rfl⟩
        rw [hu] at u1
        have UC := Lib.hid u1
        have UC := Lib.hid u1
        clear u1
        cases h7 : (xk == 7)
        · skip
          have HV := Lib.hid (show nodeB zs.length (_, xs, xa, xb) = false from by rw [hE, h7]; rfl)
          go_wp2_with fail
          refine (UC.out _).mono ?_; rintro e u1 ⟨rfl, rfl⟩
          go_wp2_with fail
          go_ret
          exact ⟨ret_bool (by have h := HE.out; rw [HV.out] at h; exact h), bl_alloc hL _⟩
        · skip
          cases ha : (xa == 0)
          · skip
            have HV := Lib.hid (show nodeB zs.length (_, xs, xa, xb) = false from by rw [hE, h7, ha]; rfl)
            go_wp2_with fail
            refine (UC.out _).mono ?_; rintro e u1 ⟨rfl, rfl⟩
            go_wp2_with fail
            go_ret
            exact ⟨ret_bool (by have h := HE.out; rw [HV.out] at h; exact h), bl_alloc hL _⟩
          · skip
            cases hb : (xb == 0)
            · skip
              have HV := Lib.hid (show nodeB zs.length (_, xs, xa, xb) = false from by rw [hE, h7, ha, hb]; rfl)
              go_wp2_with fail
              refine (UC.out _).mono ?_; rintro e u1 ⟨rfl, rfl⟩
              go_wp2_with fail
              go_ret
              exact ⟨ret_bool (by have h := HE.out; rw [HV.out] at h; exact h), bl_alloc hL _⟩
            · skip
              cases he : xs.toList.isEmpty
              · skip
                have HV := Lib.hid (show nodeB zs.length (_, xs, xa, xb) = false from by rw [hE, h7, ha, hb, he]; rfl)
                go_wp2_with fail
                refine (UC.out _).mono ?_; rintro e u1 ⟨rfl, rfl⟩
                go_wp2_with fail
                go_ret
                exact ⟨ret_bool (by have h := HE.out; rw [HV.out] at h; exact h), bl_alloc hL _⟩
              · skip
                have HV := Lib.hid (show nodeB zs.length (_, xs, xa, xb) = true from by rw [hE, h7, ha, hb, he]; rfl)
                go_wp2_with fail
                refine (UC.out _).mono ?_; rintro e u1 ⟨rfl, rfl⟩
                go_wp2_with fail
                go_roundw
                case rel => exact ⟨k + 1, by omega, by go_num, by have h := HE.out; rw [HV.out, Bool.true_and] at h; exact h, bl_alloc hL _⟩
                case measure => simp [intOf]; omega
      · obtain rfl : k = zs.length := by omega
        rw [List.drop_length] at hE
        have hE' : true = R := hE
        subst hE'
        clear hE HR
        go_wp2_with fail
        go_ret
        exact ⟨rfl, hL⟩

end Go.Proofs.Ytnoekbgmhnhneaa
