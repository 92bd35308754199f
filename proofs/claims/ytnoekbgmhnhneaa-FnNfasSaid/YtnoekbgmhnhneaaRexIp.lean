/- Walk over the program's count of a regular expression's parts: rexParts. -/
import Derived.Test.YtnoekbgmhnhneaaRexIx
namespace Go.Proofs.Ytnoekbgmhnhneaa
open Go.RowKit

set_option maxRecDepth 20000 in
set_option maxHeartbeats 16000000 in
theorem iParts_step (K : Nat) (zk : Int) (zs : ByteArray) (kids : Fr (Int × ByteArray)) (A : Option Addr) (c : Nat) (d : Int) (w : World) (hK : kids.size ≤ K) (hl : kids.size ≤ 4194304) (hz : zs.size ≤ 1048576) (hq : FrOk qSmall kids) (hd1 : 1 ≤ d) (hd7 : d ≤ 7) (hS : Sl rexC w 0 w.heap.size A kids)
    (ih : ∀ (kids : Fr (Int × ByteArray)), kids.size < K → FrOk qSmall kids → ∀ (zk : Int) (zs : ByteArray) (A : Option Addr) (c : Nat) (d : Int) (w : World), zs.size ≤ 1048576 → 1 ≤ d → d ≤ 7 → Sl rexC w 0 w.heap.size A kids → Calls Try.prog 84 #[.agg #[.int .i64 zk, .string zs, .slice A kids.len c], .int .i64 d] w fun e w' => RetInt (fun x => Parts hereB 61 d zk zs kids x) e ∧ Below w.heap.size w w') :
    Calls Try.prog 84 #[.agg #[.int .i64 zk, .string zs, .slice A kids.len c], .int .i64 d] w fun e w' => RetInt (fun x => Parts hereB 61 d zk zs kids x) e ∧ Below w.heap.size w w' := by
  by_cases hd : 6 < d
  · go_enter Try.func84, Try.ntmps84
    go_wp2_with fail
    go_ret
    exact ⟨⟨61, rfl, Parts.deep (by omega) hd⟩, by repeat (first | exact Below.refl _ _ | refine bl_drewN ?_ _ | refine Below.drew ?_ | refine bl_alloc ?_ _ | refine bl_set ?_ (by simp) _ | refine bl_trans ?_ (by assumption))⟩
  have B := Blk.new w 45 #[.int .i64 zk, .string zs, .slice A kids.len c]
  have L0 := bl_alloc (Below.refl w.heap.size w) (.cells #[.int .i64 zk, .string zs, .slice A kids.len c] 45)
  have hlen := kids.len_size
  have IHH := Lib.hid ih
  have HQ := Lib.hid hq
  clear ih hq
  by_cases n1 : zk = 1
  · subst n1
    by_cases hs1 : zs.size = 1
    · have gs : ((zs.size : Int) == 1) = true := by simp [hs1]
      have gs' : (zs.size == 1) = true := by simp [hs1]
      have hp : 0 < zs.size := by omega
      have hx := zs[0].toNat_lt
      have hx' : (zs[0].toNat : Int) < 256 := by omega
      have b1 := fun w => iLit zs[0].toNat w (by omega) hx'
      obtain ⟨b, hb⟩ : ∃ b, litB zs[0].toNat = b := ⟨_, rfl⟩
      rw [hb] at b1
      have BC := Lib.hid b1
      clear b1
      cases b
      · skip
        have HV := Lib.hid (show hereB _ zs kids = false from by rw [here_lit, gs', oneB_is hp, hb]; rfl)
        go_enter Try.func84, Try.ntmps84
        go_wp2_with fail
        refine (BC.out _).mono ?_; rintro e w1 ⟨rfl, rfl⟩
        go_wp2_with fail
        go_ret
        exact ⟨⟨61, rfl, Parts.bad (by omega) HV.out⟩, L0⟩
      · skip
        by_cases h0 : kids.len = 0
        · have g0 : ((kids.len : Int) == 0) = true := by simp [h0]
          have h0' : (kids.len == 0) = true := by simp [h0]
          have H0 := Lib.hid h0
          clear h0
          have HV := Lib.hid (show hereB _ zs kids = true from by rw [here_lit, gs', oneB_is hp, hb, h0']; rfl)
          go_enter Try.func84, Try.ntmps84
          go_wp2_with fail
          refine (BC.out _).mono ?_; rintro e w1 ⟨rfl, rfl⟩
          go_wp2_with fail
          go_loopw [6, 101] (fun nv i wr => ∃ (k : Nat) (n : Int), k ≤ kids.len ∧ i = .int .i64 k ∧ nv = .int .i64 n ∧ Inv hereB (d + 1) kids n (kids.drop k) ∧ Below w.heap.size w wr) (fun _ i _ => kids.len - (intOf i).toNat)
          case atStart => exact ⟨0, 1, Nat.zero_le _, rfl, rfl, by rw [Fr.drop_zero]; exact Inv.start, L0⟩
          case round =>
            obtain ⟨k, n, hk, rfl, rfl, hI, hLr⟩ := hrel
            by_cases hlt : k < kids.len
            · have hlt' : (k : Int) < (kids.len : Int) := by omega
              obtain ⟨b, o, a, k1, A1, c1, hAe, hb, hdr, hks, hSk, q0, q1, q2⟩ := at_Rex (hS.below hLr (Nat.le_refl _)) hlt
              first | (obtain rfl := hAe) | (injection hAe with hAe; injection hAe with hA1 hA2 hA3; subst hA1 hA2)
              have hqk := FrOk.drop k HQ.out
              rw [hdr] at hqk hI
              obtain ⟨hqa, _, hqk, _⟩ := hqk
              obtain ⟨yk, ys⟩ := a
              simp only at q0 q1
              have hn60 : n ≤ 60 := hI.2.1
              have hn1 : 1 ≤ n := hI.1
              have L1 := bl_alloc hLr (.cells #[.int .i64 yk, .string ys, .slice A1 k1.len c1] 45)
              have C := Lib.hid (IHH.out k1 (by omega) hqk yk ys A1 c1 (d + 1) (wr.alloc (.cells #[.int .i64 yk, .string ys, .slice A1 k1.len c1] 45)) hqa (by omega) (by omega) ((hSk.below (B := wr.heap.size) (bl_alloc (Below.refl wr.heap.size wr) _) hLr.size).more (Nat.le_refl _) L1.size))
              have HI := Lib.hid hI
              clear hI hdr hqk
              go_wp2_with fail
              refine C.out.mono ?_; rintro e w9 ⟨⟨x, rfl, hP⟩, b9⟩
              have hx1 : 1 ≤ x := hP.1
              have hx2 : x ≤ 61 := hP.2.1
              have HP := Lib.hid hP
              clear hP
              by_cases h60 : 61 ≤ n + x
              · go_wp2_with fail
                go_ret
                exact ⟨⟨61, rfl, Parts.much (by omega) (by omega) (HI.out.stop HP.out h60)⟩, bl_trans L1 b9⟩
              · go_wp2_with fail
                go_roundw
                case rel => exact ⟨k + 1, n + x, by omega, by go_num, rfl, HI.out.next HP.out (by omega), bl_trans L1 b9⟩
                case measure => simp [intOf]; omega
            · obtain rfl : k = kids.len := by omega
              rw [Fr.drop_all] at hI
              go_wp2_with fail
              go_ret
              exact ⟨⟨n, rfl, Parts.well (by omega) (by omega) HV.out hI⟩, hLr⟩
        · have g0 : ((kids.len : Int) == 0) = false := beq_eq_false_iff_ne.2 (by omega)
          have h0' : (kids.len == 0) = false := by simp [h0]
          have H0 := Lib.hid h0
          clear h0
          have HV := Lib.hid (show hereB _ zs kids = false from by rw [here_lit, gs', oneB_is hp, hb, h0']; rfl)
          go_enter Try.func84, Try.ntmps84
          go_wp2_with fail
          refine (BC.out _).mono ?_; rintro e w1 ⟨rfl, rfl⟩
          go_wp2_with fail
          go_ret
          exact ⟨⟨61, rfl, Parts.bad (by omega) HV.out⟩, L0⟩
    · have gs : ((zs.size : Int) == 1) = false := beq_eq_false_iff_ne.2 (by omega)
      have gs' : (zs.size == 1) = false := by simp [hs1]
      have HV := Lib.hid (show hereB _ zs kids = false from by rw [here_lit, gs']; rfl)
      go_enter Try.func84, Try.ntmps84
      go_wp2_with fail
      go_ret
      exact ⟨⟨61, rfl, Parts.bad (by omega) HV.out⟩, L0⟩
  have m1 : (zk == 1) = false := by simp [n1]
  by_cases n3 : zk = 3
  · subst n3
    have b1 := fun w => iSet zs w (by omega)
    obtain ⟨b, hb⟩ : ∃ b, setB zs = b := ⟨_, rfl⟩
    rw [hb] at b1
    have BC := Lib.hid b1
    clear b1
    cases b
    · skip
      have HV := Lib.hid (show hereB _ zs kids = false from by rw [here_set, hb]; rfl)
      go_enter Try.func84, Try.ntmps84
      go_wp2_with fail
      refine (BC.out _).mono ?_; rintro e w1 ⟨rfl, b1⟩; have cb9 := (Blk.keep B b1).cell
      go_wp2_with fail
      go_ret
      exact ⟨⟨61, rfl, Parts.bad (by omega) HV.out⟩, (bl_trans L0 b1)⟩
    · skip
      by_cases h0 : kids.len = 0
      · have g0 : ((kids.len : Int) == 0) = true := by simp [h0]
        have h0' : (kids.len == 0) = true := by simp [h0]
        have H0 := Lib.hid h0
        clear h0
        have HV := Lib.hid (show hereB _ zs kids = true from by rw [here_set, hb, h0']; rfl)
        go_enter Try.func84, Try.ntmps84
        go_wp2_with fail
        refine (BC.out _).mono ?_; rintro e w1 ⟨rfl, b1⟩; have cb9 := (Blk.keep B b1).cell
        go_wp2_with fail
        go_loopw [6, 101] (fun nv i wr => ∃ (k : Nat) (n : Int), k ≤ kids.len ∧ i = .int .i64 k ∧ nv = .int .i64 n ∧ Inv hereB (d + 1) kids n (kids.drop k) ∧ Below w.heap.size w wr) (fun _ i _ => kids.len - (intOf i).toNat)
        case atStart => exact ⟨0, 1, Nat.zero_le _, rfl, rfl, by rw [Fr.drop_zero]; exact Inv.start, (bl_trans L0 b1)⟩
        case round =>
          obtain ⟨k, n, hk, rfl, rfl, hI, hLr⟩ := hrel
          by_cases hlt : k < kids.len
          · have hlt' : (k : Int) < (kids.len : Int) := by omega
            obtain ⟨b, o, a, k1, A1, c1, hAe, hb, hdr, hks, hSk, q0, q1, q2⟩ := at_Rex (hS.below hLr (Nat.le_refl _)) hlt
            first | (obtain rfl := hAe) | (injection hAe with hAe; injection hAe with hA1 hA2 hA3; subst hA1 hA2)
            have hqk := FrOk.drop k HQ.out
            rw [hdr] at hqk hI
            obtain ⟨hqa, _, hqk, _⟩ := hqk
            obtain ⟨yk, ys⟩ := a
            simp only at q0 q1
            have hn60 : n ≤ 60 := hI.2.1
            have hn1 : 1 ≤ n := hI.1
            have L1 := bl_alloc hLr (.cells #[.int .i64 yk, .string ys, .slice A1 k1.len c1] 45)
            have C := Lib.hid (IHH.out k1 (by omega) hqk yk ys A1 c1 (d + 1) (wr.alloc (.cells #[.int .i64 yk, .string ys, .slice A1 k1.len c1] 45)) hqa (by omega) (by omega) ((hSk.below (B := wr.heap.size) (bl_alloc (Below.refl wr.heap.size wr) _) hLr.size).more (Nat.le_refl _) L1.size))
            have HI := Lib.hid hI
            clear hI hdr hqk
            go_wp2_with fail
            refine C.out.mono ?_; rintro e w9 ⟨⟨x, rfl, hP⟩, b9⟩
            have hx1 : 1 ≤ x := hP.1
            have hx2 : x ≤ 61 := hP.2.1
            have HP := Lib.hid hP
            clear hP
            by_cases h60 : 61 ≤ n + x
            · go_wp2_with fail
              go_ret
              exact ⟨⟨61, rfl, Parts.much (by omega) (by omega) (HI.out.stop HP.out h60)⟩, bl_trans L1 b9⟩
            · go_wp2_with fail
              go_roundw
              case rel => exact ⟨k + 1, n + x, by omega, by go_num, rfl, HI.out.next HP.out (by omega), bl_trans L1 b9⟩
              case measure => simp [intOf]; omega
          · obtain rfl : k = kids.len := by omega
            rw [Fr.drop_all] at hI
            go_wp2_with fail
            go_ret
            exact ⟨⟨n, rfl, Parts.well (by omega) (by omega) HV.out hI⟩, hLr⟩
      · have g0 : ((kids.len : Int) == 0) = false := beq_eq_false_iff_ne.2 (by omega)
        have h0' : (kids.len == 0) = false := by simp [h0]
        have H0 := Lib.hid h0
        clear h0
        have HV := Lib.hid (show hereB _ zs kids = false from by rw [here_set, hb, h0']; rfl)
        go_enter Try.func84, Try.ntmps84
        go_wp2_with fail
        refine (BC.out _).mono ?_; rintro e w1 ⟨rfl, b1⟩; have cb9 := (Blk.keep B b1).cell
        go_wp2_with fail
        go_ret
        exact ⟨⟨61, rfl, Parts.bad (by omega) HV.out⟩, (bl_trans L0 b1)⟩
  have m3 : (zk == 3) = false := by simp [n3]
  by_cases n2 : zk = 2
  · subst n2
    cases he : zs.toList.isEmpty
    · skip
      have HV := Lib.hid (show hereB _ zs kids = false from by rw [here_leaf (k := 2) (by simp), he]; rfl)
      go_enter Try.func84, Try.ntmps84
      go_wp2_with fail
      go_ret
      exact ⟨⟨61, rfl, Parts.bad (by omega) HV.out⟩, L0⟩
    · skip
      by_cases h0 : kids.len = 0
      · have g0 : ((kids.len : Int) == 0) = true := by simp [h0]
        have h0' : (kids.len == 0) = true := by simp [h0]
        have H0 := Lib.hid h0
        clear h0
        have HV := Lib.hid (show hereB _ zs kids = true from by rw [here_leaf (k := 2) (by simp), he, h0']; rfl)
        go_enter Try.func84, Try.ntmps84
        go_wp2_with fail
        go_loopw [6, 101] (fun nv i wr => ∃ (k : Nat) (n : Int), k ≤ kids.len ∧ i = .int .i64 k ∧ nv = .int .i64 n ∧ Inv hereB (d + 1) kids n (kids.drop k) ∧ Below w.heap.size w wr) (fun _ i _ => kids.len - (intOf i).toNat)
        case atStart => exact ⟨0, 1, Nat.zero_le _, rfl, rfl, by rw [Fr.drop_zero]; exact Inv.start, L0⟩
        case round =>
          obtain ⟨k, n, hk, rfl, rfl, hI, hLr⟩ := hrel
          by_cases hlt : k < kids.len
          · have hlt' : (k : Int) < (kids.len : Int) := by omega
            obtain ⟨b, o, a, k1, A1, c1, hAe, hb, hdr, hks, hSk, q0, q1, q2⟩ := at_Rex (hS.below hLr (Nat.le_refl _)) hlt
            first | (obtain rfl := hAe) | (injection hAe with hAe; injection hAe with hA1 hA2 hA3; subst hA1 hA2)
            have hqk := FrOk.drop k HQ.out
            rw [hdr] at hqk hI
            obtain ⟨hqa, _, hqk, _⟩ := hqk
            obtain ⟨yk, ys⟩ := a
            simp only at q0 q1
            have hn60 : n ≤ 60 := hI.2.1
            have hn1 : 1 ≤ n := hI.1
            have L1 := bl_alloc hLr (.cells #[.int .i64 yk, .string ys, .slice A1 k1.len c1] 45)
            have C := Lib.hid (IHH.out k1 (by omega) hqk yk ys A1 c1 (d + 1) (wr.alloc (.cells #[.int .i64 yk, .string ys, .slice A1 k1.len c1] 45)) hqa (by omega) (by omega) ((hSk.below (B := wr.heap.size) (bl_alloc (Below.refl wr.heap.size wr) _) hLr.size).more (Nat.le_refl _) L1.size))
            have HI := Lib.hid hI
            clear hI hdr hqk
            go_wp2_with fail
            refine C.out.mono ?_; rintro e w9 ⟨⟨x, rfl, hP⟩, b9⟩
            have hx1 : 1 ≤ x := hP.1
            have hx2 : x ≤ 61 := hP.2.1
            have HP := Lib.hid hP
            clear hP
            by_cases h60 : 61 ≤ n + x
            · go_wp2_with fail
              go_ret
              exact ⟨⟨61, rfl, Parts.much (by omega) (by omega) (HI.out.stop HP.out h60)⟩, bl_trans L1 b9⟩
            · go_wp2_with fail
              go_roundw
              case rel => exact ⟨k + 1, n + x, by omega, by go_num, rfl, HI.out.next HP.out (by omega), bl_trans L1 b9⟩
              case measure => simp [intOf]; omega
          · obtain rfl : k = kids.len := by omega
            rw [Fr.drop_all] at hI
            go_wp2_with fail
            go_ret
            exact ⟨⟨n, rfl, Parts.well (by omega) (by omega) HV.out hI⟩, hLr⟩
      · have g0 : ((kids.len : Int) == 0) = false := beq_eq_false_iff_ne.2 (by omega)
        have h0' : (kids.len == 0) = false := by simp [h0]
        have H0 := Lib.hid h0
        clear h0
        have HV := Lib.hid (show hereB _ zs kids = false from by rw [here_leaf (k := 2) (by simp), he, h0']; rfl)
        go_enter Try.func84, Try.ntmps84
        go_wp2_with fail
        go_ret
        exact ⟨⟨61, rfl, Parts.bad (by omega) HV.out⟩, L0⟩
  have m2 : (zk == 2) = false := by simp [n2]
  by_cases n9 : zk = 9
  · subst n9
    cases he : zs.toList.isEmpty
    · skip
      have HV := Lib.hid (show hereB _ zs kids = false from by rw [here_leaf (k := 9) (by simp), he]; rfl)
      go_enter Try.func84, Try.ntmps84
      go_wp2_with fail
      go_ret
      exact ⟨⟨61, rfl, Parts.bad (by omega) HV.out⟩, L0⟩
    · skip
      by_cases h0 : kids.len = 0
      · have g0 : ((kids.len : Int) == 0) = true := by simp [h0]
        have h0' : (kids.len == 0) = true := by simp [h0]
        have H0 := Lib.hid h0
        clear h0
        have HV := Lib.hid (show hereB _ zs kids = true from by rw [here_leaf (k := 9) (by simp), he, h0']; rfl)
        go_enter Try.func84, Try.ntmps84
        go_wp2_with fail
        go_loopw [6, 101] (fun nv i wr => ∃ (k : Nat) (n : Int), k ≤ kids.len ∧ i = .int .i64 k ∧ nv = .int .i64 n ∧ Inv hereB (d + 1) kids n (kids.drop k) ∧ Below w.heap.size w wr) (fun _ i _ => kids.len - (intOf i).toNat)
        case atStart => exact ⟨0, 1, Nat.zero_le _, rfl, rfl, by rw [Fr.drop_zero]; exact Inv.start, L0⟩
        case round =>
          obtain ⟨k, n, hk, rfl, rfl, hI, hLr⟩ := hrel
          by_cases hlt : k < kids.len
          · have hlt' : (k : Int) < (kids.len : Int) := by omega
            obtain ⟨b, o, a, k1, A1, c1, hAe, hb, hdr, hks, hSk, q0, q1, q2⟩ := at_Rex (hS.below hLr (Nat.le_refl _)) hlt
            first | (obtain rfl := hAe) | (injection hAe with hAe; injection hAe with hA1 hA2 hA3; subst hA1 hA2)
            have hqk := FrOk.drop k HQ.out
            rw [hdr] at hqk hI
            obtain ⟨hqa, _, hqk, _⟩ := hqk
            obtain ⟨yk, ys⟩ := a
            simp only at q0 q1
            have hn60 : n ≤ 60 := hI.2.1
            have hn1 : 1 ≤ n := hI.1
            have L1 := bl_alloc hLr (.cells #[.int .i64 yk, .string ys, .slice A1 k1.len c1] 45)
            have C := Lib.hid (IHH.out k1 (by omega) hqk yk ys A1 c1 (d + 1) (wr.alloc (.cells #[.int .i64 yk, .string ys, .slice A1 k1.len c1] 45)) hqa (by omega) (by omega) ((hSk.below (B := wr.heap.size) (bl_alloc (Below.refl wr.heap.size wr) _) hLr.size).more (Nat.le_refl _) L1.size))
            have HI := Lib.hid hI
            clear hI hdr hqk
            go_wp2_with fail
            refine C.out.mono ?_; rintro e w9 ⟨⟨x, rfl, hP⟩, b9⟩
            have hx1 : 1 ≤ x := hP.1
            have hx2 : x ≤ 61 := hP.2.1
            have HP := Lib.hid hP
            clear hP
            by_cases h60 : 61 ≤ n + x
            · go_wp2_with fail
              go_ret
              exact ⟨⟨61, rfl, Parts.much (by omega) (by omega) (HI.out.stop HP.out h60)⟩, bl_trans L1 b9⟩
            · go_wp2_with fail
              go_roundw
              case rel => exact ⟨k + 1, n + x, by omega, by go_num, rfl, HI.out.next HP.out (by omega), bl_trans L1 b9⟩
              case measure => simp [intOf]; omega
          · obtain rfl : k = kids.len := by omega
            rw [Fr.drop_all] at hI
            go_wp2_with fail
            go_ret
            exact ⟨⟨n, rfl, Parts.well (by omega) (by omega) HV.out hI⟩, hLr⟩
      · have g0 : ((kids.len : Int) == 0) = false := beq_eq_false_iff_ne.2 (by omega)
        have h0' : (kids.len == 0) = false := by simp [h0]
        have H0 := Lib.hid h0
        clear h0
        have HV := Lib.hid (show hereB _ zs kids = false from by rw [here_leaf (k := 9) (by simp), he, h0']; rfl)
        go_enter Try.func84, Try.ntmps84
        go_wp2_with fail
        go_ret
        exact ⟨⟨61, rfl, Parts.bad (by omega) HV.out⟩, L0⟩
  have m9 : (zk == 9) = false := by simp [n9]
  by_cases n10 : zk = 10
  · subst n10
    cases he : zs.toList.isEmpty
    · skip
      have HV := Lib.hid (show hereB _ zs kids = false from by rw [here_leaf (k := 10) (by simp), he]; rfl)
      go_enter Try.func84, Try.ntmps84
      go_wp2_with fail
      go_ret
      exact ⟨⟨61, rfl, Parts.bad (by omega) HV.out⟩, L0⟩
    · skip
      by_cases h0 : kids.len = 0
      · have g0 : ((kids.len : Int) == 0) = true := by simp [h0]
        have h0' : (kids.len == 0) = true := by simp [h0]
        have H0 := Lib.hid h0
        clear h0
        have HV := Lib.hid (show hereB _ zs kids = true from by rw [here_leaf (k := 10) (by simp), he, h0']; rfl)
        go_enter Try.func84, Try.ntmps84
        go_wp2_with fail
        go_loopw [6, 101] (fun nv i wr => ∃ (k : Nat) (n : Int), k ≤ kids.len ∧ i = .int .i64 k ∧ nv = .int .i64 n ∧ Inv hereB (d + 1) kids n (kids.drop k) ∧ Below w.heap.size w wr) (fun _ i _ => kids.len - (intOf i).toNat)
        case atStart => exact ⟨0, 1, Nat.zero_le _, rfl, rfl, by rw [Fr.drop_zero]; exact Inv.start, L0⟩
        case round =>
          obtain ⟨k, n, hk, rfl, rfl, hI, hLr⟩ := hrel
          by_cases hlt : k < kids.len
          · have hlt' : (k : Int) < (kids.len : Int) := by omega
            obtain ⟨b, o, a, k1, A1, c1, hAe, hb, hdr, hks, hSk, q0, q1, q2⟩ := at_Rex (hS.below hLr (Nat.le_refl _)) hlt
            first | (obtain rfl := hAe) | (injection hAe with hAe; injection hAe with hA1 hA2 hA3; subst hA1 hA2)
            have hqk := FrOk.drop k HQ.out
            rw [hdr] at hqk hI
            obtain ⟨hqa, _, hqk, _⟩ := hqk
            obtain ⟨yk, ys⟩ := a
            simp only at q0 q1
            have hn60 : n ≤ 60 := hI.2.1
            have hn1 : 1 ≤ n := hI.1
            have L1 := bl_alloc hLr (.cells #[.int .i64 yk, .string ys, .slice A1 k1.len c1] 45)
            have C := Lib.hid (IHH.out k1 (by omega) hqk yk ys A1 c1 (d + 1) (wr.alloc (.cells #[.int .i64 yk, .string ys, .slice A1 k1.len c1] 45)) hqa (by omega) (by omega) ((hSk.below (B := wr.heap.size) (bl_alloc (Below.refl wr.heap.size wr) _) hLr.size).more (Nat.le_refl _) L1.size))
            have HI := Lib.hid hI
            clear hI hdr hqk
            go_wp2_with fail
            refine C.out.mono ?_; rintro e w9 ⟨⟨x, rfl, hP⟩, b9⟩
            have hx1 : 1 ≤ x := hP.1
            have hx2 : x ≤ 61 := hP.2.1
            have HP := Lib.hid hP
            clear hP
            by_cases h60 : 61 ≤ n + x
            · go_wp2_with fail
              go_ret
              exact ⟨⟨61, rfl, Parts.much (by omega) (by omega) (HI.out.stop HP.out h60)⟩, bl_trans L1 b9⟩
            · go_wp2_with fail
              go_roundw
              case rel => exact ⟨k + 1, n + x, by omega, by go_num, rfl, HI.out.next HP.out (by omega), bl_trans L1 b9⟩
              case measure => simp [intOf]; omega
          · obtain rfl : k = kids.len := by omega
            rw [Fr.drop_all] at hI
            go_wp2_with fail
            go_ret
            exact ⟨⟨n, rfl, Parts.well (by omega) (by omega) HV.out hI⟩, hLr⟩
      · have g0 : ((kids.len : Int) == 0) = false := beq_eq_false_iff_ne.2 (by omega)
        have h0' : (kids.len == 0) = false := by simp [h0]
        have H0 := Lib.hid h0
        clear h0
        have HV := Lib.hid (show hereB _ zs kids = false from by rw [here_leaf (k := 10) (by simp), he, h0']; rfl)
        go_enter Try.func84, Try.ntmps84
        go_wp2_with fail
        go_ret
        exact ⟨⟨61, rfl, Parts.bad (by omega) HV.out⟩, L0⟩
  have m10 : (zk == 10) = false := by simp [n10]
  by_cases n11 : zk = 11
  · subst n11
    cases he : zs.toList.isEmpty
    · skip
      have HV := Lib.hid (show hereB _ zs kids = false from by rw [here_leaf (k := 11) (by simp), he]; rfl)
      go_enter Try.func84, Try.ntmps84
      go_wp2_with fail
      go_ret
      exact ⟨⟨61, rfl, Parts.bad (by omega) HV.out⟩, L0⟩
    · skip
      by_cases h0 : kids.len = 0
      · have g0 : ((kids.len : Int) == 0) = true := by simp [h0]
        have h0' : (kids.len == 0) = true := by simp [h0]
        have H0 := Lib.hid h0
        clear h0
        have HV := Lib.hid (show hereB _ zs kids = true from by rw [here_leaf (k := 11) (by simp), he, h0']; rfl)
        go_enter Try.func84, Try.ntmps84
        go_wp2_with fail
        go_loopw [6, 101] (fun nv i wr => ∃ (k : Nat) (n : Int), k ≤ kids.len ∧ i = .int .i64 k ∧ nv = .int .i64 n ∧ Inv hereB (d + 1) kids n (kids.drop k) ∧ Below w.heap.size w wr) (fun _ i _ => kids.len - (intOf i).toNat)
        case atStart => exact ⟨0, 1, Nat.zero_le _, rfl, rfl, by rw [Fr.drop_zero]; exact Inv.start, L0⟩
        case round =>
          obtain ⟨k, n, hk, rfl, rfl, hI, hLr⟩ := hrel
          by_cases hlt : k < kids.len
          · have hlt' : (k : Int) < (kids.len : Int) := by omega
            obtain ⟨b, o, a, k1, A1, c1, hAe, hb, hdr, hks, hSk, q0, q1, q2⟩ := at_Rex (hS.below hLr (Nat.le_refl _)) hlt
            first | (obtain rfl := hAe) | (injection hAe with hAe; injection hAe with hA1 hA2 hA3; subst hA1 hA2)
            have hqk := FrOk.drop k HQ.out
            rw [hdr] at hqk hI
            obtain ⟨hqa, _, hqk, _⟩ := hqk
            obtain ⟨yk, ys⟩ := a
            simp only at q0 q1
            have hn60 : n ≤ 60 := hI.2.1
            have hn1 : 1 ≤ n := hI.1
            have L1 := bl_alloc hLr (.cells #[.int .i64 yk, .string ys, .slice A1 k1.len c1] 45)
            have C := Lib.hid (IHH.out k1 (by omega) hqk yk ys A1 c1 (d + 1) (wr.alloc (.cells #[.int .i64 yk, .string ys, .slice A1 k1.len c1] 45)) hqa (by omega) (by omega) ((hSk.below (B := wr.heap.size) (bl_alloc (Below.refl wr.heap.size wr) _) hLr.size).more (Nat.le_refl _) L1.size))
            have HI := Lib.hid hI
            clear hI hdr hqk
            go_wp2_with fail
            refine C.out.mono ?_; rintro e w9 ⟨⟨x, rfl, hP⟩, b9⟩
            have hx1 : 1 ≤ x := hP.1
            have hx2 : x ≤ 61 := hP.2.1
            have HP := Lib.hid hP
            clear hP
            by_cases h60 : 61 ≤ n + x
            · go_wp2_with fail
              go_ret
              exact ⟨⟨61, rfl, Parts.much (by omega) (by omega) (HI.out.stop HP.out h60)⟩, bl_trans L1 b9⟩
            · go_wp2_with fail
              go_roundw
              case rel => exact ⟨k + 1, n + x, by omega, by go_num, rfl, HI.out.next HP.out (by omega), bl_trans L1 b9⟩
              case measure => simp [intOf]; omega
          · obtain rfl : k = kids.len := by omega
            rw [Fr.drop_all] at hI
            go_wp2_with fail
            go_ret
            exact ⟨⟨n, rfl, Parts.well (by omega) (by omega) HV.out hI⟩, hLr⟩
      · have g0 : ((kids.len : Int) == 0) = false := beq_eq_false_iff_ne.2 (by omega)
        have h0' : (kids.len == 0) = false := by simp [h0]
        have H0 := Lib.hid h0
        clear h0
        have HV := Lib.hid (show hereB _ zs kids = false from by rw [here_leaf (k := 11) (by simp), he, h0']; rfl)
        go_enter Try.func84, Try.ntmps84
        go_wp2_with fail
        go_ret
        exact ⟨⟨61, rfl, Parts.bad (by omega) HV.out⟩, L0⟩
  have m11 : (zk == 11) = false := by simp [n11]
  by_cases n4 : zk = 4
  · subst n4
    cases he : zs.toList.isEmpty
    · skip
      have HV := Lib.hid (show hereB _ zs kids = false from by rw [here_many (k := 4) (by simp), he]; rfl)
      go_enter Try.func84, Try.ntmps84
      go_wp2_with fail
      go_ret
      exact ⟨⟨61, rfl, Parts.bad (by omega) HV.out⟩, L0⟩
    · skip
      have b1 := fun w => iWithin kids.len 2 8 w
      obtain ⟨b, hb⟩ : ∃ b, inI kids.len 2 8 = b := ⟨_, rfl⟩
      rw [hb] at b1
      have BC := Lib.hid b1
      clear b1
      cases b
      · skip
        have HV := Lib.hid (show hereB _ zs kids = false from by rw [here_many (k := 4) (by simp), he, hb]; rfl)
        go_enter Try.func84, Try.ntmps84
        go_wp2_with fail
        refine (BC.out _).mono ?_; rintro e w1 ⟨rfl, rfl⟩
        go_wp2_with fail
        go_ret
        exact ⟨⟨61, rfl, Parts.bad (by omega) HV.out⟩, L0⟩
      · skip
        have u1 := iHasK w.heap.size 4 zs (.slice A kids.len c) kids A c (w.alloc (.cells #[.int .i64 4, .string zs, .slice A kids.len c] 45)) hl B ((hS.below L0 (Nat.le_refl _)).more (Nat.le_refl _) L0.size)
        obtain ⟨u, hu⟩ : ∃ u, hasK 4 kids = u := ⟨_, rfl⟩
        rw [hu] at u1
        have UC := Lib.hid u1
        clear u1
        cases u
        · skip
          have HV := Lib.hid (show hereB _ zs kids = true from by rw [here_many (k := 4) (by simp), he, hb, hu]; rfl)
          go_enter Try.func84, Try.ntmps84
          go_wp2_with fail
          refine (BC.out _).mono ?_; rintro e w1 ⟨rfl, rfl⟩
          go_wp2_with fail
          refine UC.out.mono ?_; rintro e w1 ⟨rfl, b1⟩; have cb9 := (Blk.keep B b1).cell
          go_wp2_with fail
          go_loopw [6, 101] (fun nv i wr => ∃ (k : Nat) (n : Int), k ≤ kids.len ∧ i = .int .i64 k ∧ nv = .int .i64 n ∧ Inv hereB (d + 1) kids n (kids.drop k) ∧ Below w.heap.size w wr) (fun _ i _ => kids.len - (intOf i).toNat)
          case atStart => exact ⟨0, 1, Nat.zero_le _, rfl, rfl, by rw [Fr.drop_zero]; exact Inv.start, (bl_trans L0 b1)⟩
          case round =>
            obtain ⟨k, n, hk, rfl, rfl, hI, hLr⟩ := hrel
            by_cases hlt : k < kids.len
            · have hlt' : (k : Int) < (kids.len : Int) := by omega
              obtain ⟨b, o, a, k1, A1, c1, hAe, hb, hdr, hks, hSk, q0, q1, q2⟩ := at_Rex (hS.below hLr (Nat.le_refl _)) hlt
              first | (obtain rfl := hAe) | (injection hAe with hAe; injection hAe with hA1 hA2 hA3; subst hA1 hA2)
              have hqk := FrOk.drop k HQ.out
              rw [hdr] at hqk hI
              obtain ⟨hqa, _, hqk, _⟩ := hqk
              obtain ⟨yk, ys⟩ := a
              simp only at q0 q1
              have hn60 : n ≤ 60 := hI.2.1
              have hn1 : 1 ≤ n := hI.1
              have L1 := bl_alloc hLr (.cells #[.int .i64 yk, .string ys, .slice A1 k1.len c1] 45)
              have C := Lib.hid (IHH.out k1 (by omega) hqk yk ys A1 c1 (d + 1) (wr.alloc (.cells #[.int .i64 yk, .string ys, .slice A1 k1.len c1] 45)) hqa (by omega) (by omega) ((hSk.below (B := wr.heap.size) (bl_alloc (Below.refl wr.heap.size wr) _) hLr.size).more (Nat.le_refl _) L1.size))
              have HI := Lib.hid hI
              clear hI hdr hqk
              go_wp2_with fail
              refine C.out.mono ?_; rintro e w9 ⟨⟨x, rfl, hP⟩, b9⟩
              have hx1 : 1 ≤ x := hP.1
              have hx2 : x ≤ 61 := hP.2.1
              have HP := Lib.hid hP
              clear hP
              by_cases h60 : 61 ≤ n + x
              · go_wp2_with fail
                go_ret
                exact ⟨⟨61, rfl, Parts.much (by omega) (by omega) (HI.out.stop HP.out h60)⟩, bl_trans L1 b9⟩
              · go_wp2_with fail
                go_roundw
                case rel => exact ⟨k + 1, n + x, by omega, by go_num, rfl, HI.out.next HP.out (by omega), bl_trans L1 b9⟩
                case measure => simp [intOf]; omega
            · obtain rfl : k = kids.len := by omega
              rw [Fr.drop_all] at hI
              go_wp2_with fail
              go_ret
              exact ⟨⟨n, rfl, Parts.well (by omega) (by omega) HV.out hI⟩, hLr⟩
        · skip
          have HV := Lib.hid (show hereB _ zs kids = false from by rw [here_many (k := 4) (by simp), he, hb, hu]; rfl)
          go_enter Try.func84, Try.ntmps84
          go_wp2_with fail
          refine (BC.out _).mono ?_; rintro e w1 ⟨rfl, rfl⟩
          go_wp2_with fail
          refine UC.out.mono ?_; rintro e w1 ⟨rfl, b1⟩; have cb9 := (Blk.keep B b1).cell
          go_wp2_with fail
          go_ret
          exact ⟨⟨61, rfl, Parts.bad (by omega) HV.out⟩, (bl_trans L0 b1)⟩
  have m4 : (zk == 4) = false := by simp [n4]
  by_cases n5 : zk = 5
  · subst n5
    cases he : zs.toList.isEmpty
    · skip
      have HV := Lib.hid (show hereB _ zs kids = false from by rw [here_many (k := 5) (by simp), he]; rfl)
      go_enter Try.func84, Try.ntmps84
      go_wp2_with fail
      go_ret
      exact ⟨⟨61, rfl, Parts.bad (by omega) HV.out⟩, L0⟩
    · skip
      have b1 := fun w => iWithin kids.len 2 8 w
      obtain ⟨b, hb⟩ : ∃ b, inI kids.len 2 8 = b := ⟨_, rfl⟩
      rw [hb] at b1
      have BC := Lib.hid b1
      clear b1
      cases b
      · skip
        have HV := Lib.hid (show hereB _ zs kids = false from by rw [here_many (k := 5) (by simp), he, hb]; rfl)
        go_enter Try.func84, Try.ntmps84
        go_wp2_with fail
        refine (BC.out _).mono ?_; rintro e w1 ⟨rfl, rfl⟩
        go_wp2_with fail
        go_ret
        exact ⟨⟨61, rfl, Parts.bad (by omega) HV.out⟩, L0⟩
      · skip
        have u1 := iHasK w.heap.size 5 zs (.slice A kids.len c) kids A c (w.alloc (.cells #[.int .i64 5, .string zs, .slice A kids.len c] 45)) hl B ((hS.below L0 (Nat.le_refl _)).more (Nat.le_refl _) L0.size)
        obtain ⟨u, hu⟩ : ∃ u, hasK 5 kids = u := ⟨_, rfl⟩
        rw [hu] at u1
        have UC := Lib.hid u1
        clear u1
        cases u
        · skip
          have HV := Lib.hid (show hereB _ zs kids = true from by rw [here_many (k := 5) (by simp), he, hb, hu]; rfl)
          go_enter Try.func84, Try.ntmps84
          go_wp2_with fail
          refine (BC.out _).mono ?_; rintro e w1 ⟨rfl, rfl⟩
          go_wp2_with fail
          refine UC.out.mono ?_; rintro e w1 ⟨rfl, b1⟩; have cb9 := (Blk.keep B b1).cell
          go_wp2_with fail
          go_loopw [6, 101] (fun nv i wr => ∃ (k : Nat) (n : Int), k ≤ kids.len ∧ i = .int .i64 k ∧ nv = .int .i64 n ∧ Inv hereB (d + 1) kids n (kids.drop k) ∧ Below w.heap.size w wr) (fun _ i _ => kids.len - (intOf i).toNat)
          case atStart => exact ⟨0, 1, Nat.zero_le _, rfl, rfl, by rw [Fr.drop_zero]; exact Inv.start, (bl_trans L0 b1)⟩
          case round =>
            obtain ⟨k, n, hk, rfl, rfl, hI, hLr⟩ := hrel
            by_cases hlt : k < kids.len
            · have hlt' : (k : Int) < (kids.len : Int) := by omega
              obtain ⟨b, o, a, k1, A1, c1, hAe, hb, hdr, hks, hSk, q0, q1, q2⟩ := at_Rex (hS.below hLr (Nat.le_refl _)) hlt
              first | (obtain rfl := hAe) | (injection hAe with hAe; injection hAe with hA1 hA2 hA3; subst hA1 hA2)
              have hqk := FrOk.drop k HQ.out
              rw [hdr] at hqk hI
              obtain ⟨hqa, _, hqk, _⟩ := hqk
              obtain ⟨yk, ys⟩ := a
              simp only at q0 q1
              have hn60 : n ≤ 60 := hI.2.1
              have hn1 : 1 ≤ n := hI.1
              have L1 := bl_alloc hLr (.cells #[.int .i64 yk, .string ys, .slice A1 k1.len c1] 45)
              have C := Lib.hid (IHH.out k1 (by omega) hqk yk ys A1 c1 (d + 1) (wr.alloc (.cells #[.int .i64 yk, .string ys, .slice A1 k1.len c1] 45)) hqa (by omega) (by omega) ((hSk.below (B := wr.heap.size) (bl_alloc (Below.refl wr.heap.size wr) _) hLr.size).more (Nat.le_refl _) L1.size))
              have HI := Lib.hid hI
              clear hI hdr hqk
              go_wp2_with fail
              refine C.out.mono ?_; rintro e w9 ⟨⟨x, rfl, hP⟩, b9⟩
              have hx1 : 1 ≤ x := hP.1
              have hx2 : x ≤ 61 := hP.2.1
              have HP := Lib.hid hP
              clear hP
              by_cases h60 : 61 ≤ n + x
              · go_wp2_with fail
                go_ret
                exact ⟨⟨61, rfl, Parts.much (by omega) (by omega) (HI.out.stop HP.out h60)⟩, bl_trans L1 b9⟩
              · go_wp2_with fail
                go_roundw
                case rel => exact ⟨k + 1, n + x, by omega, by go_num, rfl, HI.out.next HP.out (by omega), bl_trans L1 b9⟩
                case measure => simp [intOf]; omega
            · obtain rfl : k = kids.len := by omega
              rw [Fr.drop_all] at hI
              go_wp2_with fail
              go_ret
              exact ⟨⟨n, rfl, Parts.well (by omega) (by omega) HV.out hI⟩, hLr⟩
        · skip
          have HV := Lib.hid (show hereB _ zs kids = false from by rw [here_many (k := 5) (by simp), he, hb, hu]; rfl)
          go_enter Try.func84, Try.ntmps84
          go_wp2_with fail
          refine (BC.out _).mono ?_; rintro e w1 ⟨rfl, rfl⟩
          go_wp2_with fail
          refine UC.out.mono ?_; rintro e w1 ⟨rfl, b1⟩; have cb9 := (Blk.keep B b1).cell
          go_wp2_with fail
          go_ret
          exact ⟨⟨61, rfl, Parts.bad (by omega) HV.out⟩, (bl_trans L0 b1)⟩
  have m5 : (zk == 5) = false := by simp [n5]
  by_cases n6 : zk = 6
  · subst n6
    cases he : zs.toList.isEmpty
    · skip
      have HV := Lib.hid (show hereB _ zs kids = false from by rw [here_rep (k := 6) (by simp), he]; rfl)
      go_enter Try.func84, Try.ntmps84
      go_wp2_with fail
      go_ret
      exact ⟨⟨61, rfl, Parts.bad (by omega) HV.out⟩, L0⟩
    · skip
      by_cases h0 : kids.len = 1
      · have g0 : ((kids.len : Int) == 1) = true := by simp [h0]
        have h0' : (kids.len == 1) = true := by simp [h0]
        have H0 := Lib.hid h0
        clear h0
        obtain ⟨b, o, a, k1, A1, c1, rfl, hb, hd, hks, hSk, q0, q1, q2⟩ := at_Rex (hS.below L0 (Nat.le_refl _)) (i := 0) (by have := H0.out; omega)
        obtain ⟨yk, ys⟩ := a
        simp only [Nat.zero_mul, Nat.add_zero] at q0 q1 q2
        rw [Fr.drop_zero] at hd
        have hrep : repF kids = repB yk := repF_is hd
        have hlt0 : (0 : Int) < kids.len := by have := H0.out; omega
        clear hd
        have r1 := fun w => iRep yk ys (.slice A1 k1.len c1) w
        obtain ⟨r, hr⟩ : ∃ r, repB yk = r := ⟨_, rfl⟩
        rw [hr] at r1
        have RC := Lib.hid r1
        clear r1
        cases r
        · skip
          have HV := Lib.hid (show hereB _ zs kids = true from by rw [here_rep (k := 6) (by simp), he, h0', hrep, hr]; rfl)
          go_enter Try.func84, Try.ntmps84
          go_wp2_with fail
          refine (RC.out _).mono ?_; rintro e w1 ⟨rfl, b1⟩; have cb9 := (Blk.keep B b1).cell
          go_wp2_with fail
          go_loopw [6, 101] (fun nv i wr => ∃ (k : Nat) (n : Int), k ≤ kids.len ∧ i = .int .i64 k ∧ nv = .int .i64 n ∧ Inv hereB (d + 1) kids n (kids.drop k) ∧ Below w.heap.size w wr) (fun _ i _ => kids.len - (intOf i).toNat)
          case atStart => exact ⟨0, 1, Nat.zero_le _, rfl, rfl, by rw [Fr.drop_zero]; exact Inv.start, (bl_trans L0 b1)⟩
          case round =>
            obtain ⟨k, n, hk, rfl, rfl, hI, hLr⟩ := hrel
            by_cases hlt : k < kids.len
            · have hlt' : (k : Int) < (kids.len : Int) := by omega
              obtain ⟨b, o, a, k1, A1, c1, hAe, hb, hdr, hks, hSk, q0, q1, q2⟩ := at_Rex (hS.below hLr (Nat.le_refl _)) hlt
              first | (obtain rfl := hAe) | (injection hAe with hAe; injection hAe with hA1 hA2 hA3; subst hA1 hA2)
              have hqk := FrOk.drop k HQ.out
              rw [hdr] at hqk hI
              obtain ⟨hqa, _, hqk, _⟩ := hqk
              obtain ⟨yk, ys⟩ := a
              simp only at q0 q1
              have hn60 : n ≤ 60 := hI.2.1
              have hn1 : 1 ≤ n := hI.1
              have L1 := bl_alloc hLr (.cells #[.int .i64 yk, .string ys, .slice A1 k1.len c1] 45)
              have C := Lib.hid (IHH.out k1 (by omega) hqk yk ys A1 c1 (d + 1) (wr.alloc (.cells #[.int .i64 yk, .string ys, .slice A1 k1.len c1] 45)) hqa (by omega) (by omega) ((hSk.below (B := wr.heap.size) (bl_alloc (Below.refl wr.heap.size wr) _) hLr.size).more (Nat.le_refl _) L1.size))
              have HI := Lib.hid hI
              clear hI hdr hqk
              go_wp2_with fail
              refine C.out.mono ?_; rintro e w9 ⟨⟨x, rfl, hP⟩, b9⟩
              have hx1 : 1 ≤ x := hP.1
              have hx2 : x ≤ 61 := hP.2.1
              have HP := Lib.hid hP
              clear hP
              by_cases h60 : 61 ≤ n + x
              · go_wp2_with fail
                go_ret
                exact ⟨⟨61, rfl, Parts.much (by omega) (by omega) (HI.out.stop HP.out h60)⟩, bl_trans L1 b9⟩
              · go_wp2_with fail
                go_roundw
                case rel => exact ⟨k + 1, n + x, by omega, by go_num, rfl, HI.out.next HP.out (by omega), bl_trans L1 b9⟩
                case measure => simp [intOf]; omega
            · obtain rfl : k = kids.len := by omega
              rw [Fr.drop_all] at hI
              go_wp2_with fail
              go_ret
              exact ⟨⟨n, rfl, Parts.well (by omega) (by omega) HV.out hI⟩, hLr⟩
        · skip
          have HV := Lib.hid (show hereB _ zs kids = false from by rw [here_rep (k := 6) (by simp), he, h0', hrep, hr]; rfl)
          go_enter Try.func84, Try.ntmps84
          go_wp2_with fail
          refine (RC.out _).mono ?_; rintro e w1 ⟨rfl, b1⟩; have cb9 := (Blk.keep B b1).cell
          go_wp2_with fail
          go_ret
          exact ⟨⟨61, rfl, Parts.bad (by omega) HV.out⟩, (bl_trans L0 b1)⟩
      · have g0 : ((kids.len : Int) == 1) = false := beq_eq_false_iff_ne.2 (by omega)
        have h0' : (kids.len == 1) = false := by simp [h0]
        have H0 := Lib.hid h0
        clear h0
        have HV := Lib.hid (show hereB _ zs kids = false from by rw [here_rep (k := 6) (by simp), he, h0']; rfl)
        go_enter Try.func84, Try.ntmps84
        go_wp2_with fail
        go_ret
        exact ⟨⟨61, rfl, Parts.bad (by omega) HV.out⟩, L0⟩
  have m6 : (zk == 6) = false := by simp [n6]
  by_cases n7 : zk = 7
  · subst n7
    cases he : zs.toList.isEmpty
    · skip
      have HV := Lib.hid (show hereB _ zs kids = false from by rw [here_rep (k := 7) (by simp), he]; rfl)
      go_enter Try.func84, Try.ntmps84
      go_wp2_with fail
      go_ret
      exact ⟨⟨61, rfl, Parts.bad (by omega) HV.out⟩, L0⟩
    · skip
      by_cases h0 : kids.len = 1
      · have g0 : ((kids.len : Int) == 1) = true := by simp [h0]
        have h0' : (kids.len == 1) = true := by simp [h0]
        have H0 := Lib.hid h0
        clear h0
        obtain ⟨b, o, a, k1, A1, c1, rfl, hb, hd, hks, hSk, q0, q1, q2⟩ := at_Rex (hS.below L0 (Nat.le_refl _)) (i := 0) (by have := H0.out; omega)
        obtain ⟨yk, ys⟩ := a
        simp only [Nat.zero_mul, Nat.add_zero] at q0 q1 q2
        rw [Fr.drop_zero] at hd
        have hrep : repF kids = repB yk := repF_is hd
        have hlt0 : (0 : Int) < kids.len := by have := H0.out; omega
        clear hd
        have r1 := fun w => iRep yk ys (.slice A1 k1.len c1) w
        obtain ⟨r, hr⟩ : ∃ r, repB yk = r := ⟨_, rfl⟩
        rw [hr] at r1
        have RC := Lib.hid r1
        clear r1
        cases r
        · skip
          have HV := Lib.hid (show hereB _ zs kids = true from by rw [here_rep (k := 7) (by simp), he, h0', hrep, hr]; rfl)
          go_enter Try.func84, Try.ntmps84
          go_wp2_with fail
          refine (RC.out _).mono ?_; rintro e w1 ⟨rfl, b1⟩; have cb9 := (Blk.keep B b1).cell
          go_wp2_with fail
          go_loopw [6, 101] (fun nv i wr => ∃ (k : Nat) (n : Int), k ≤ kids.len ∧ i = .int .i64 k ∧ nv = .int .i64 n ∧ Inv hereB (d + 1) kids n (kids.drop k) ∧ Below w.heap.size w wr) (fun _ i _ => kids.len - (intOf i).toNat)
          case atStart => exact ⟨0, 1, Nat.zero_le _, rfl, rfl, by rw [Fr.drop_zero]; exact Inv.start, (bl_trans L0 b1)⟩
          case round =>
            obtain ⟨k, n, hk, rfl, rfl, hI, hLr⟩ := hrel
            by_cases hlt : k < kids.len
            · have hlt' : (k : Int) < (kids.len : Int) := by omega
              obtain ⟨b, o, a, k1, A1, c1, hAe, hb, hdr, hks, hSk, q0, q1, q2⟩ := at_Rex (hS.below hLr (Nat.le_refl _)) hlt
              first | (obtain rfl := hAe) | (injection hAe with hAe; injection hAe with hA1 hA2 hA3; subst hA1 hA2)
              have hqk := FrOk.drop k HQ.out
              rw [hdr] at hqk hI
              obtain ⟨hqa, _, hqk, _⟩ := hqk
              obtain ⟨yk, ys⟩ := a
              simp only at q0 q1
              have hn60 : n ≤ 60 := hI.2.1
              have hn1 : 1 ≤ n := hI.1
              have L1 := bl_alloc hLr (.cells #[.int .i64 yk, .string ys, .slice A1 k1.len c1] 45)
              have C := Lib.hid (IHH.out k1 (by omega) hqk yk ys A1 c1 (d + 1) (wr.alloc (.cells #[.int .i64 yk, .string ys, .slice A1 k1.len c1] 45)) hqa (by omega) (by omega) ((hSk.below (B := wr.heap.size) (bl_alloc (Below.refl wr.heap.size wr) _) hLr.size).more (Nat.le_refl _) L1.size))
              have HI := Lib.hid hI
              clear hI hdr hqk
              go_wp2_with fail
              refine C.out.mono ?_; rintro e w9 ⟨⟨x, rfl, hP⟩, b9⟩
              have hx1 : 1 ≤ x := hP.1
              have hx2 : x ≤ 61 := hP.2.1
              have HP := Lib.hid hP
              clear hP
              by_cases h60 : 61 ≤ n + x
              · go_wp2_with fail
                go_ret
                exact ⟨⟨61, rfl, Parts.much (by omega) (by omega) (HI.out.stop HP.out h60)⟩, bl_trans L1 b9⟩
              · go_wp2_with fail
                go_roundw
                case rel => exact ⟨k + 1, n + x, by omega, by go_num, rfl, HI.out.next HP.out (by omega), bl_trans L1 b9⟩
                case measure => simp [intOf]; omega
            · obtain rfl : k = kids.len := by omega
              rw [Fr.drop_all] at hI
              go_wp2_with fail
              go_ret
              exact ⟨⟨n, rfl, Parts.well (by omega) (by omega) HV.out hI⟩, hLr⟩
        · skip
          have HV := Lib.hid (show hereB _ zs kids = false from by rw [here_rep (k := 7) (by simp), he, h0', hrep, hr]; rfl)
          go_enter Try.func84, Try.ntmps84
          go_wp2_with fail
          refine (RC.out _).mono ?_; rintro e w1 ⟨rfl, b1⟩; have cb9 := (Blk.keep B b1).cell
          go_wp2_with fail
          go_ret
          exact ⟨⟨61, rfl, Parts.bad (by omega) HV.out⟩, (bl_trans L0 b1)⟩
      · have g0 : ((kids.len : Int) == 1) = false := beq_eq_false_iff_ne.2 (by omega)
        have h0' : (kids.len == 1) = false := by simp [h0]
        have H0 := Lib.hid h0
        clear h0
        have HV := Lib.hid (show hereB _ zs kids = false from by rw [here_rep (k := 7) (by simp), he, h0']; rfl)
        go_enter Try.func84, Try.ntmps84
        go_wp2_with fail
        go_ret
        exact ⟨⟨61, rfl, Parts.bad (by omega) HV.out⟩, L0⟩
  have m7 : (zk == 7) = false := by simp [n7]
  by_cases n8 : zk = 8
  · subst n8
    cases he : zs.toList.isEmpty
    · skip
      have HV := Lib.hid (show hereB _ zs kids = false from by rw [here_rep (k := 8) (by simp), he]; rfl)
      go_enter Try.func84, Try.ntmps84
      go_wp2_with fail
      go_ret
      exact ⟨⟨61, rfl, Parts.bad (by omega) HV.out⟩, L0⟩
    · skip
      by_cases h0 : kids.len = 1
      · have g0 : ((kids.len : Int) == 1) = true := by simp [h0]
        have h0' : (kids.len == 1) = true := by simp [h0]
        have H0 := Lib.hid h0
        clear h0
        obtain ⟨b, o, a, k1, A1, c1, rfl, hb, hd, hks, hSk, q0, q1, q2⟩ := at_Rex (hS.below L0 (Nat.le_refl _)) (i := 0) (by have := H0.out; omega)
        obtain ⟨yk, ys⟩ := a
        simp only [Nat.zero_mul, Nat.add_zero] at q0 q1 q2
        rw [Fr.drop_zero] at hd
        have hrep : repF kids = repB yk := repF_is hd
        have hlt0 : (0 : Int) < kids.len := by have := H0.out; omega
        clear hd
        have r1 := fun w => iRep yk ys (.slice A1 k1.len c1) w
        obtain ⟨r, hr⟩ : ∃ r, repB yk = r := ⟨_, rfl⟩
        rw [hr] at r1
        have RC := Lib.hid r1
        clear r1
        cases r
        · skip
          have HV := Lib.hid (show hereB _ zs kids = true from by rw [here_rep (k := 8) (by simp), he, h0', hrep, hr]; rfl)
          go_enter Try.func84, Try.ntmps84
          go_wp2_with fail
          refine (RC.out _).mono ?_; rintro e w1 ⟨rfl, b1⟩; have cb9 := (Blk.keep B b1).cell
          go_wp2_with fail
          go_loopw [6, 101] (fun nv i wr => ∃ (k : Nat) (n : Int), k ≤ kids.len ∧ i = .int .i64 k ∧ nv = .int .i64 n ∧ Inv hereB (d + 1) kids n (kids.drop k) ∧ Below w.heap.size w wr) (fun _ i _ => kids.len - (intOf i).toNat)
          case atStart => exact ⟨0, 1, Nat.zero_le _, rfl, rfl, by rw [Fr.drop_zero]; exact Inv.start, (bl_trans L0 b1)⟩
          case round =>
            obtain ⟨k, n, hk, rfl, rfl, hI, hLr⟩ := hrel
            by_cases hlt : k < kids.len
            · have hlt' : (k : Int) < (kids.len : Int) := by omega
              obtain ⟨b, o, a, k1, A1, c1, hAe, hb, hdr, hks, hSk, q0, q1, q2⟩ := at_Rex (hS.below hLr (Nat.le_refl _)) hlt
              first | (obtain rfl := hAe) | (injection hAe with hAe; injection hAe with hA1 hA2 hA3; subst hA1 hA2)
              have hqk := FrOk.drop k HQ.out
              rw [hdr] at hqk hI
              obtain ⟨hqa, _, hqk, _⟩ := hqk
              obtain ⟨yk, ys⟩ := a
              simp only at q0 q1
              have hn60 : n ≤ 60 := hI.2.1
              have hn1 : 1 ≤ n := hI.1
              have L1 := bl_alloc hLr (.cells #[.int .i64 yk, .string ys, .slice A1 k1.len c1] 45)
              have C := Lib.hid (IHH.out k1 (by omega) hqk yk ys A1 c1 (d + 1) (wr.alloc (.cells #[.int .i64 yk, .string ys, .slice A1 k1.len c1] 45)) hqa (by omega) (by omega) ((hSk.below (B := wr.heap.size) (bl_alloc (Below.refl wr.heap.size wr) _) hLr.size).more (Nat.le_refl _) L1.size))
              have HI := Lib.hid hI
              clear hI hdr hqk
              go_wp2_with fail
              refine C.out.mono ?_; rintro e w9 ⟨⟨x, rfl, hP⟩, b9⟩
              have hx1 : 1 ≤ x := hP.1
              have hx2 : x ≤ 61 := hP.2.1
              have HP := Lib.hid hP
              clear hP
              by_cases h60 : 61 ≤ n + x
              · go_wp2_with fail
                go_ret
                exact ⟨⟨61, rfl, Parts.much (by omega) (by omega) (HI.out.stop HP.out h60)⟩, bl_trans L1 b9⟩
              · go_wp2_with fail
                go_roundw
                case rel => exact ⟨k + 1, n + x, by omega, by go_num, rfl, HI.out.next HP.out (by omega), bl_trans L1 b9⟩
                case measure => simp [intOf]; omega
            · obtain rfl : k = kids.len := by omega
              rw [Fr.drop_all] at hI
              go_wp2_with fail
              go_ret
              exact ⟨⟨n, rfl, Parts.well (by omega) (by omega) HV.out hI⟩, hLr⟩
        · skip
          have HV := Lib.hid (show hereB _ zs kids = false from by rw [here_rep (k := 8) (by simp), he, h0', hrep, hr]; rfl)
          go_enter Try.func84, Try.ntmps84
          go_wp2_with fail
          refine (RC.out _).mono ?_; rintro e w1 ⟨rfl, b1⟩; have cb9 := (Blk.keep B b1).cell
          go_wp2_with fail
          go_ret
          exact ⟨⟨61, rfl, Parts.bad (by omega) HV.out⟩, (bl_trans L0 b1)⟩
      · have g0 : ((kids.len : Int) == 1) = false := beq_eq_false_iff_ne.2 (by omega)
        have h0' : (kids.len == 1) = false := by simp [h0]
        have H0 := Lib.hid h0
        clear h0
        have HV := Lib.hid (show hereB _ zs kids = false from by rw [here_rep (k := 8) (by simp), he, h0']; rfl)
        go_enter Try.func84, Try.ntmps84
        go_wp2_with fail
        go_ret
        exact ⟨⟨61, rfl, Parts.bad (by omega) HV.out⟩, L0⟩
  have m8 : (zk == 8) = false := by simp [n8]
  have HV := Lib.hid (show hereB _ zs kids = false from here_none (by intro j hj; simp only [List.mem_cons, List.not_mem_nil, or_false] at hj; rcases hj with rfl | rfl | rfl | rfl | rfl | rfl | rfl | rfl | rfl | rfl | rfl <;> assumption) zs kids)
  go_enter Try.func84, Try.ntmps84
  go_wp2_with fail
  go_ret
  exact ⟨⟨61, rfl, Parts.bad (by omega) HV.out⟩, L0⟩

theorem iParts_any (K : Nat) : ∀ (kids : Fr (Int × ByteArray)), kids.size ≤ K → K ≤ 4194304 → FrOk qSmall kids → ∀ (zk : Int) (zs : ByteArray) (A : Option Addr) (c : Nat) (d : Int) (w : World), zs.size ≤ 1048576 → 1 ≤ d → d ≤ 7 → Sl rexC w 0 w.heap.size A kids → Calls Try.prog 84 #[.agg #[.int .i64 zk, .string zs, .slice A kids.len c], .int .i64 d] w fun e w' => RetInt (fun x => Parts hereB 61 d zk zs kids x) e ∧ Below w.heap.size w w' := by
  induction K with
  | zero =>
    intro kids hK _ hq zk zs A c d w hz h1 h7 hS
    exact iParts_step 0 zk zs kids A c d w hK (by omega) hz hq h1 h7 hS (fun kids h => by omega)
  | succ K ih =>
    intro kids hK hb hq zk zs A c d w hz h1 h7 hS
    exact iParts_step (K + 1) zk zs kids A c d w hK (by omega) hz hq h1 h7 hS (fun kids h => ih kids (by omega) (by omega))

end Go.Proofs.Ytnoekbgmhnhneaa
