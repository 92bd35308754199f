/- Walks over the laws' helpers on rows of Nodes: szNodeS, toNodeS, eqNodeS. Lengths are at most 2 to the 30th in these contracts. -/
import Derived.Test.YtnoekbgmhnhneaaQ0
import Derived.Test.YtnoekbgmhnhneaaQ1
import Derived.Deep.RegionHeld3
namespace Go.Proofs.Ytnoekbgmhnhneaa
open Go.RowKit

/-- A Node's cells. -/
def nodeC (t : (Int × ByteArray × Int × Int)) : List Value := [.int .i64 t.1, .string t.2.1, .int .i64 t.2.2.1, .int .i64 t.2.2.2]
theorem nodeC_len (t : (Int × ByteArray × Int × Int)) : (nodeC t).length = 4 := rfl
/-- The texts. -/
def nodeS (ts : List (Int × ByteArray × Int × Int)) : List ByteArray := ts.map (fun t => t.2.1)
theorem rd_node {w : World} {B : Nat} {A : Option Addr} {ts : List (Int × ByteArray × Int × Int)} (h : Reads w B 4 A ts.length (flat nodeC ts)) {i : Nat} (hi : i < ts.length) :
    ∃ b off, A = some ⟨b, off, none⟩ ∧ b < B ∧ w.cell? ⟨b, off + i * 4, none⟩ = some (.int .i64 ts[i].1) ∧ w.cell? ⟨b, off + i * 4 + 1, none⟩ = some (.string ts[i].2.1) ∧ w.cell? ⟨b, off + i * 4 + 2, none⟩ = some (.int .i64 ts[i].2.2.1) ∧ w.cell? ⟨b, off + i * 4 + 3, none⟩ = some (.int .i64 ts[i].2.2.2) := by
  obtain ⟨b, off, e, hb, hc⟩ := rd_flat nodeC_len h hi
  exact ⟨b, off, e, hb, hc 0 _ rfl, hc 1 _ rfl, hc 2 _ rfl, hc 3 _ rfl⟩
theorem info_node : (Try.prog.info? 76).map (fun i => (i.zero, i.size, i.bytes)) = some (some (.agg #[.int .i64 0, .string ⟨#[]⟩, .int .i64 0, .int .i64 0]), 4, 40) := by kernel_rfl
set_option maxHeartbeats 400000 in
theorem toNode_any (xk : Int) (xs : ByteArray) (xa : Int) (xb : Int) (w : World) :
    Calls Try.prog 76 #[.agg #[.int .i64 xk, .string xs, .int .i64 xa, .int .i64 xb]] w fun e w' => e = .returned (.agg #[.int .i64 xk, .string xs, .int .i64 xa, .int .i64 xb]) ∧ Below w.heap.size w w' := by
  go_enter Try.func76, Try.ntmps76
  go_wp2
  exact bodyPost_ret (v := .agg #[.int .i64 xk, .string xs, .int .i64 xa, .int .i64 xb]) (by simp [results, Try.results76, go_sem]) rfl ⟨rfl, by repeat (first | exact Below.refl _ _ | refine bl_drewN ?_ _ | refine Below.drew ?_ | refine bl_alloc ?_ _ | refine bl_set ?_ (by simp) _ | refine bl_trans ?_ (by assumption))⟩
set_option maxHeartbeats 400000 in
theorem szNode_any (xk : Int) (xs : ByteArray) (xa : Int) (xb : Int) (left : Int) (w : World) (h : xs.size ≤ 9223372036854775807) (hl : 0 ≤ left) (h2 : left ≤ 1048576) :
    Calls Try.prog 75 #[.agg #[.int .i64 xk, .string xs, .int .i64 xa, .int .i64 xb], .int .i64 left] w fun e w' => e = .returned (.int .i64 (left_ left xs.size)) ∧ Below w.heap.size w w' := by
  by_cases hc : left - (xs.size : Int) < 0
  · rw [left_is (by omega)]
    go_enter Try.func75, Try.ntmps75
    go_wp2_with fail
    go_ret
    exact ⟨rfl, by repeat (first | exact Below.refl _ _ | refine bl_drewN ?_ _ | refine Below.drew ?_ | refine bl_alloc ?_ _ | refine bl_set ?_ (by simp) _ | refine bl_trans ?_ (by assumption))⟩
  · rw [show left_ left xs.size = left - xs.size by unfold left_; rw [if_neg hc]]
    go_enter Try.func75, Try.ntmps75
    go_wp2_with fail
    go_ret
    exact ⟨rfl, by repeat (first | exact Below.refl _ _ | refine bl_drewN ?_ _ | refine Below.drew ?_ | refine bl_alloc ?_ _ | refine bl_set ?_ (by simp) _ | refine bl_trans ?_ (by assumption))⟩

set_option maxHeartbeats 1000000 in
theorem szNodeS_any (A : Option Addr) (c : Nat) (left : Int) (zs : List (Int × ByteArray × Int × Int)) (w : World) (hR : Reads w w.heap.size 4 A zs.length (flat nodeC zs)) (hZ : ∀ z ∈ zs, z.2.1.size ≤ 9223372036854775807) (hn : zs.length ≤ 9223372036854775807) (h0 : 0 ≤ left) (h1 : left ≤ 1048576) :
    Calls Try.prog 41 #[.slice A zs.length c, .int .i64 left] w fun e w' => e = .returned (.int .i64 (szS left (nodeS zs))) ∧ Below w.heap.size w w' := by
  have hsl : (nodeS zs).length = zs.length := by simp [nodeS]
  by_cases hl : left - (zs.length : Int) < 0
  · have E : szS left (nodeS zs) = -1 := by unfold szS; rw [hsl, if_pos hl]
    rw [E]
    go_enter Try.func41, Try.ntmps41
    go_wp2_with fail
    go_ret
    exact ⟨rfl, Below.refl _ _⟩
  · have E : szL (left - zs.length) ((nodeS zs).drop 0) = szS left (nodeS zs) := by unfold szS; rw [hsl, if_neg hl]; rfl
    generalize szS left (nodeS zs) = R at E ⊢
    have HE := Lib.hid E
    have HSL := Lib.hid hsl
    clear E hsl
    go_enter Try.func41, Try.ntmps41
    go_wp2_with fail
    go_loopw [1, 5] (fun l i wr => ∃ (k : Nat) (y : Int), k ≤ zs.length ∧ i = .int .i64 k ∧ l = .int .i64 y ∧ 0 ≤ y ∧ y ≤ 1048576 ∧ szL y ((nodeS zs).drop k) = R ∧ Below w.heap.size w wr) (fun _ i _ => zs.length - (intOf i).toNat)
    case atStart => exact ⟨0, _, Nat.zero_le _, rfl, rfl, by omega, by omega, HE.out, Below.refl _ _⟩
    case round =>
      obtain ⟨k, y, hk, rfl, rfl, hy0, hy1, hE, hL⟩ := hrel
      by_cases hlt : k < zs.length
      · obtain ⟨b, off, rfl, hb, q0, q1, q2, q3⟩ := rd_node (hR.below hL) hlt
        have hz := hZ _ (List.getElem_mem hlt)
        have hlt' : (k : Int) < (zs.length : Int) := by omega
        have hget : (nodeS zs)[k]'(by rw [HSL.out]; exact hlt) = zs[k].2.1 := by simp [nodeS]
        rw [szL_drop (nodeS zs) k y (by rw [HSL.out]; exact hlt), hget] at hE
        clear hget
        generalize zs[k] = z at *
        obtain ⟨xk, xs, xa, xb⟩ := z
        have C := szNode_any xk xs xa xb y wr hz hy0 hy1
        unfold left_ at C
        by_cases hs : y - (xs.size : Int) < 0
        · rw [if_pos hs] at hE
          rw [if_pos hs] at C
          have CC := Lib.hid C
          subst hE
          clear HE C
          go_wp2_with fail
          refine CC.out.mono ?_; rintro e w1 ⟨rfl, b1⟩
          go_wp2_with fail
          go_ret
          exact ⟨rfl, bl_trans hL b1⟩
        · rw [if_neg hs] at hE
          rw [if_neg hs] at C
          have CC := Lib.hid C
          have H := Lib.hid hE
          clear hE HE C
          go_wp2_with fail
          refine CC.out.mono ?_; rintro e w1 ⟨rfl, b1⟩
          go_wp2_with fail
          go_roundw
          case rel => exact ⟨k + 1, _, by omega, by go_num, rfl, by omega, by omega, H.out, bl_trans hL b1⟩
          case measure => simp [intOf]; omega
      · obtain rfl : k = zs.length := by omega
        rw [← HSL.out, List.drop_length] at hE
        have hE' : y = R := hE
        subst hE'
        clear HE hE
        go_wp2_with fail
        go_ret
        exact ⟨rfl, hL⟩

/-- It hands back new Nodes. -/
def RetNode (R : List (Int × ByteArray × Int × Int) → Prop) (w : World) (e : Ending) (w' : World) : Prop := ∃ (v : Value) (zs : List (Int × ByteArray × Int × Int)), e = .returned v ∧ R zs ∧ Row w' w.heap.size w'.heap.size 76 4 v zs.length (flat nodeC zs)
set_option maxHeartbeats 2000000 in
theorem toNodeS_any (A : Option Addr) (c : Nat) (zs : List (Int × ByteArray × Int × Int)) (w : World) (hR : Reads w w.heap.size 4 A zs.length (flat nodeC zs)) (hn : zs.length ≤ 1073741824) :
    Calls Try.prog 45 #[.slice A zs.length c] w fun e w' => RetNode (fun ys => zs = ys) w e w' ∧ Below w.heap.size w w' := by
  have hn' : (zs.length : Int) ≤ 1073741824 := by omega
  obtain ⟨i0, hi, hz0, hz1, hz2⟩ := info_parts info_node
  obtain ⟨ys, hys⟩ : ∃ ys : List (Int × ByteArray × Int × Int), ys = List.replicate zs.length (0, ⟨#[]⟩, 0, 0) := ⟨_, rfl⟩
  have hyl : Hid (zs.length = ys.length) := by unfold Hid; rw [hys]; simp
  have hrep2 : Hid ((List.replicate zs.length [Value.int .i64 0, Value.string ⟨#[]⟩, Value.int .i64 0, Value.int .i64 0]).flatten = flat nodeC ys) := by
    unfold Hid
    rw [hys]
    unfold flat
    rw [List.flatMap_replicate]
    rfl
  clear hys
  go_enter Try.func45, Try.ntmps45
  go_wp2_with (at_make; refine wpList_makeN rfl _ _ 28 rfl 76 i0 (.agg #[.int .i64 0, .string ⟨#[]⟩, .int .i64 0, .int .i64 0]) 4 40 Try.underlying28 hi hz0 hz1 hz2 rfl _ _ zs.length rfl rfl (by omega) (by omega) ?_)
  intro w1 hO hL
  rw [hrep2.out] at hO
  go_wp2_with fail
  go_loopw [4] (fun i wr => ∃ k : Nat, k ≤ zs.length ∧ i = .int .i64 k ∧ wr.ownsRow w.heap.size 76 4 (.slice (some ⟨w.heap.size, 0, none⟩) zs.length zs.length) zs.length (flat nodeC (uptoG zs ys k)) ∧ Below w.heap.size w wr) (fun i _ => zs.length - (intOf i).toNat)
  case atStart => exact ⟨0, Nat.zero_le _, rfl, by rw [uptoG_zero]; exact hO, hL⟩
  case round =>
    obtain ⟨k, hk, rfl, hOr, hLr⟩ := hrel
    by_cases hlt : k < zs.length
    · obtain ⟨b, off, rfl, hb, q0, q1, q2, q3⟩ := rd_node (hR.below hLr) hlt
      have hlt' : (k : Int) < (zs.length : Int) := by omega
      have hu := uptoG_succ zs ys k hyl.out hlt
      have hul : k < (uptoG zs ys k).length := by rw [uptoG_len _ _ _ hyl.out hk]; exact hlt
      have hcg := fun c hc => flat_get nodeC_len (uptoG zs ys k) k hul c hc
      have HU := Lib.hid hu
      clear hu
      generalize zs[k] = z at *
      obtain ⟨xk, xs, xa, xb⟩ := z
      go_wp2_with fail
      refine (toNode_any xk xs xa xb _).mono ?_; rintro e w2 ⟨rfl, b2⟩
      have hO2 : w2.ownsRow _ _ _ _ _ _ := ((Row.mk hOr).keep b2).1
      have cc0 := hO2.cellAt (k * 4) (by omega)
      have cc1 := hO2.cellAt (k * 4 + 1) (by omega)
      have cc2 := hO2.cellAt (k * 4 + 2) (by omega)
      have cc3 := hO2.cellAt (k * 4 + 3) (by omega)
      rw [hcg 1 (by omega)] at cc1
      rw [hcg 2 (by omega)] at cc2
      rw [hcg 3 (by omega)] at cc3
      have h0 := hcg 0 (by omega)
      rw [Nat.add_zero] at h0
      rw [h0] at cc0
      have f0 := hO2.frozenAt (k * 4)
      have f1 := hO2.frozenAt (k * 4 + 1)
      have f2 := hO2.frozenAt (k * 4 + 2)
      have f3 := hO2.frozenAt (k * 4 + 3)
      clear h0 hcg
      have hS := ((((hO2.stored (k * 4) (.int .i64 xk)).1.stored (k * 4 + 1) (.string xs)).1.stored (k * 4 + 2) (.int .i64 xa)).1.stored (k * 4 + 3) (.int .i64 xb)).1
      rw [flat_set4 nodeC_len (xk, xs, xa, xb) rfl _ k hul, HU.out] at hS
      have HS := Lib.hid hS
      clear hS
      generalize (uptoG zs ys k)[k] = y at *
      obtain ⟨yy0, yy1, yy2, yy3⟩ := y
      simp only [nodeC] at cc0 cc1 cc2 cc3
      go_wp2_with fail
      go_roundw
      case rel => exact ⟨k + 1, by omega, by go_num, HS.out, bl_set (bl_set (bl_set (bl_set (bl_trans hLr b2) (Nat.le_refl _) _) (Nat.le_refl _) _) (Nat.le_refl _) _) (Nat.le_refl _) _⟩
      case measure => simp [intOf]; omega
    · obtain rfl : k = zs.length := by omega
      rw [uptoG_all _ _ hyl.out] at hOr
      have H := Lib.hid hOr
      clear hOr
      go_wp2_with fail
      go_ret
      exact ⟨⟨_, zs, rfl, rfl, Row.mk H.out⟩, hLr⟩

set_option maxHeartbeats 400000 in
theorem eqNode_any (xk : Int) (xs : ByteArray) (xa : Int) (xb : Int) (w : World) :
    Calls Try.prog 78 #[.agg #[.int .i64 xk, .string xs, .int .i64 xa, .int .i64 xb], .agg #[.int .i64 xk, .string xs, .int .i64 xa, .int .i64 xb]] w fun e w' => e = .returned (.bool true) ∧ Below w.heap.size w w' := by
  go_enter Try.func78, Try.ntmps78
  go_wp2_with fail
  go_ret
  exact ⟨rfl, by repeat (first | exact Below.refl _ _ | refine bl_drewN ?_ _ | refine Below.drew ?_ | refine bl_alloc ?_ _ | refine bl_set ?_ (by simp) _ | refine bl_trans ?_ (by assumption))⟩

set_option maxHeartbeats 1000000 in
theorem eqNodeS_any (A A' : Option Addr) (c c' : Nat) (zs : List (Int × ByteArray × Int × Int)) (w : World) (hR : Reads w w.heap.size 4 A zs.length (flat nodeC zs)) (hR' : Reads w w.heap.size 4 A' zs.length (flat nodeC zs)) (hn : zs.length ≤ 1073741824) :
    Calls Try.prog 47 #[.slice A zs.length c, .slice A' zs.length c'] w fun e w' => e = .returned (.bool true) ∧ Below w.heap.size w w' := by
  have hn' : (zs.length : Int) ≤ 1073741824 := by omega
  go_enter Try.func47, Try.ntmps47
  go_wp2_with fail
  go_loopw [5] (fun i wr => ∃ k : Nat, k ≤ zs.length ∧ i = .int .i64 k ∧ Below w.heap.size w wr) (fun i _ => zs.length - (intOf i).toNat)
  case atStart => exact ⟨0, Nat.zero_le _, rfl, Below.refl _ _⟩
  case round =>
    obtain ⟨k, hk, rfl, hL⟩ := hrel
    by_cases hlt : k < zs.length
    · obtain ⟨b, off, rfl, hb, q0, q1, q2, q3⟩ := rd_node (hR.below hL) hlt
      obtain ⟨b', off', rfl, hb', r0, r1, r2, r3⟩ := rd_node (hR'.below hL) hlt
      have hlt' : (k : Int) < (zs.length : Int) := by omega
      have hbb : b < wr.drew.heap.size := Nat.lt_of_lt_of_le hb hL.size
      have hbb' : b' < wr.drew.heap.size := Nat.lt_of_lt_of_le hb' hL.size
      generalize zs[k] = z at *
      obtain ⟨xk, xs, xa, xb⟩ := z
      go_wp2_with fail
      refine wp_region_held_drew (S := (fun x => (x.cell? ⟨b, off + k * 4, none⟩ = some (.int .i64 xk) ∧ x.cell? ⟨b, off + k * 4 + 1, none⟩ = some (.string xs) ∧ x.cell? ⟨b, off + k * 4 + 2, none⟩ = some (.int .i64 xa) ∧ x.cell? ⟨b, off + k * 4 + 3, none⟩ = some (.int .i64 xb)) ∧ (x.cell? ⟨b', off' + k * 4, none⟩ = some (.int .i64 xk) ∧ x.cell? ⟨b', off' + k * 4 + 1, none⟩ = some (.string xs) ∧ x.cell? ⟨b', off' + k * 4 + 2, none⟩ = some (.int .i64 xa) ∧ x.cell? ⟨b', off' + k * 4 + 3, none⟩ = some (.int .i64 xb)))) (by kernel_rfl) ?_ (fun hHeld => ?_)
      · exact ⟨⟨q0, q1, q2, q3⟩, r0, r1, r2, r3⟩
      refine wpAnyH_take (i := 0) (oi := ⟨some 17, _, _, _, _, _⟩) (v := ?_) rfl (by kernel_rfl) (by kernel_rfl) (by kernel_rfl) (fun _ _ _ h => h) (Or.inl ⟨by rfl, ?_⟩) (by assumption) ?_
      case refine_2 => (intro w hSw; obtain ⟨⟨p0, p1, p2, p3⟩, u0, u1, u2, u3⟩ := hSw; go_simp; first | done | with_reducible rfl)
      simp only [Act.put, List.setIfInBounds_toArray, List.set_cons_zero, List.set_cons_succ]
      refine wpAnyH_take (i := 1) (oi := ⟨some 18, _, _, _, _, _⟩) (v := ?_) rfl (by kernel_rfl) (by kernel_rfl) (by kernel_rfl) (fun _ _ _ h => h) (Or.inl ⟨by rfl, ?_⟩) (by assumption) ?_
      case refine_2 => (intro w hSw; obtain ⟨⟨p0, p1, p2, p3⟩, u0, u1, u2, u3⟩ := hSw; go_simp; first | done | with_reducible rfl)
      simp only [Act.put, List.setIfInBounds_toArray, List.set_cons_zero, List.set_cons_succ]
      refine wpAnyH_take (i := 2) (oi := ⟨some 19, _, _, _, _, _⟩) (v := ?_) rfl (by kernel_rfl) (by kernel_rfl) (by kernel_rfl) (fun _ _ _ h => h) (Or.inl ⟨by rfl, ?_⟩) (by assumption) ?_
      case refine_2 => (intro w hSw; obtain ⟨⟨p0, p1, p2, p3⟩, u0, u1, u2, u3⟩ := hSw; go_simp; first | done | with_reducible rfl)
      simp only [Act.put, List.setIfInBounds_toArray, List.set_cons_zero, List.set_cons_succ]
      refine wpAnyH_take (i := 3) (oi := ⟨some 20, _, _, _, _, _⟩) (v := ?_) rfl (by kernel_rfl) (by kernel_rfl) (by kernel_rfl) (fun _ _ _ h => h) (Or.inl ⟨by rfl, ?_⟩) (by assumption) ?_
      case refine_2 => (intro w hSw; obtain ⟨⟨p0, p1, p2, p3⟩, u0, u1, u2, u3⟩ := hSw; go_simp; first | done | with_reducible rfl)
      simp only [Act.put, List.setIfInBounds_toArray, List.set_cons_zero, List.set_cons_succ]
      refine wpAnyH_take (i := 4) (oi := ⟨some 21, _, _, _, _, _⟩) (v := ?_) rfl (by kernel_rfl) (by kernel_rfl) (by kernel_rfl) (fun _ _ _ h => h) (Or.inl ⟨by rfl, ?_⟩) (by assumption) ?_
      case refine_2 => (intro w hSw; obtain ⟨⟨p0, p1, p2, p3⟩, u0, u1, u2, u3⟩ := hSw; go_simp; first | done | with_reducible rfl)
      simp only [Act.put, List.setIfInBounds_toArray, List.set_cons_zero, List.set_cons_succ]
      refine wpAnyH_take (i := 5) (oi := ⟨some 22, _, _, _, _, _⟩) (v := ?_) rfl (by kernel_rfl) (by kernel_rfl) (by kernel_rfl) (fun _ _ _ h => h) (Or.inl ⟨by rfl, ?_⟩) (by assumption) ?_
      case refine_2 => (intro w hSw; obtain ⟨⟨p0, p1, p2, p3⟩, u0, u1, u2, u3⟩ := hSw; go_simp; first | done | with_reducible rfl)
      simp only [Act.put, List.setIfInBounds_toArray, List.set_cons_zero, List.set_cons_succ]
      refine wpAnyH_take (i := 6) (oi := ⟨some 23, _, _, _, _, _⟩) (v := ?_) rfl (by kernel_rfl) (by kernel_rfl) (by kernel_rfl) (fun _ _ _ h => h) (Or.inl ⟨by rfl, ?_⟩) (by assumption) ?_
      case refine_2 => (intro w hSw; obtain ⟨⟨p0, p1, p2, p3⟩, u0, u1, u2, u3⟩ := hSw; go_simp; first | done | with_reducible rfl)
      simp only [Act.put, List.setIfInBounds_toArray, List.set_cons_zero, List.set_cons_succ]
      refine wpAnyH_take (i := 7) (oi := ⟨some 24, _, _, _, _, _⟩) (v := ?_) rfl (by kernel_rfl) (by kernel_rfl) (by kernel_rfl) (fun _ _ _ h => h) (Or.inl ⟨by rfl, ?_⟩) (by assumption) ?_
      case refine_2 => (intro w hSw; obtain ⟨⟨p0, p1, p2, p3⟩, u0, u1, u2, u3⟩ := hSw; go_simp; first | done | with_reducible rfl)
      simp only [Act.put, List.setIfInBounds_toArray, List.set_cons_zero, List.set_cons_succ]
      refine wpAnyH_ready (rs := [8]) (by kernel_rfl) (by simp) ?_
      refine AllReadyH.cons (o := ⟨some 25, _, _, _, _, _⟩) rfl (fun K hK => ?_) AllReadyH.nil
      go_simp
      refine (eqNode_any xk xs xa xb _).mono ?_; rintro e w1 ⟨rfl, b1⟩
      go_wp2_with fail
      refine hK.out _ _ (⟨⟨(b1.cell hbb).trans q0, (b1.cell hbb).trans q1, (b1.cell hbb).trans q2, (b1.cell hbb).trans q3⟩, (b1.cell hbb').trans r0, (b1.cell hbb').trans r1, (b1.cell hbb').trans r2, (b1.cell hbb').trans r3⟩) (fun hHeld => ?_)
      clear hK K
      try simp only [Act.put, List.setIfInBounds_toArray, List.set_cons_zero, List.set_cons_succ]
      refine wpAnyH_take (i := 9) (oi := ⟨some 26, _, _, _, _, _⟩) (v := ?_) rfl (by kernel_rfl) (by kernel_rfl) (by kernel_rfl) (fun _ _ _ h => h) (Or.inl ⟨by rfl, ?_⟩) (by assumption) ?_
      case refine_2 => (intro w hSw; skip; go_simp; first | done | with_reducible rfl)
      simp only [Act.put, List.setIfInBounds_toArray, List.set_cons_zero, List.set_cons_succ]
      refine wpAnyH_done (by kernel_rfl) ?_ _
      go_wp2_with fail
      go_roundw
      case rel => exact ⟨k + 1, by omega, by go_num, bl_trans hL.drew b1⟩
      case measure => simp [intOf]; omega
    · obtain rfl : k = zs.length := by omega
      go_wp2_with fail
      go_ret
      exact ⟨rfl, hL⟩

end Go.Proofs.Ytnoekbgmhnhneaa
